/- Classes, steps, neighbours of two curves, isomorphic curves: the walks of both sides. Conditions: none. Printed by gen_icm.py. -/
import Derived.Test.YtnhgdmhiblpknaaIcK
namespace Go.Proofs.Ytnhgdmhiblpknaa
open Go Go.RowKit

def clasV (a b : Int) : List Cu × Bool := if curveB a b = true then (match clsV a b with | some T => (srt T, true) | none => ([], false)) else ([], false)
def stpO (o : Option (List (Cu × Int))) (m : Cu) : Int × Bool := match o with
  | none => (0, false)
  | some T => if m ∈ fsT T then ((T.getD ((fsT T).idxOf m) (m, 0)).2, true) else (0, false)
def stpV (a b c d : Int) : Int × Bool := if curveB a b = true ∧ curveB c d = true then stpO (clsV a b) (smC c d) else (0, false)
def twoV (a b c d : Int) : Bool × Bool := if curveB a b = true ∧ curveB c d = true then (if (allV a b).2 = true then (decide (smC c d ∈ (allV a b).1), true) else (false, false)) else (false, false)
def isoV (a b c d : Int) : Bool × Bool := if curveB a b = true ∧ curveB c d = true then (decide (smC a b = smC c d), true) else (false, false)
theorem both_no1 {a b c d : Int} (h : curveB a b = false) : ¬ (curveB a b = true ∧ curveB c d = true) := by rw [h]; simp
theorem both_no2 {a b c d : Int} (h : curveB c d = false) : ¬ (curveB a b = true ∧ curveB c d = true) := by rw [h]; simp
theorem srt_of {T : List (Cu × Int)} {d : List Cu} (hn : (fsT T).Nodup) (hp : d.Perm (fsT T)) (hs : ∀ i j, i < j → j < d.length → ¬ cmpCu (cuS.get d j) (cuS.get d i) < 0) : d = srt T := by
  have hd : d.Pairwise ltC := by
    rw [List.pairwise_iff_getElem]
    intro i j hi hj hij
    have h1 := hs i j hij hj
    rw [getCu hi, getCu hj] at h1
    have h2 : d.Nodup := hp.nodup_iff.2 hn
    rw [List.nodup_iff_pairwise_ne, List.pairwise_iff_getElem] at h2
    exact ltC_or h1 (fun e => h2 i j hi hj hij e.symm)
  exact srt_uniq hd (setC_srt _) (fun c => by rw [hp.mem_iff]; exact (setC_mem c _).symm)
theorem setC_take {L : List Cu} {k : Nat} (h : k < L.length) : setC (L.take (k + 1)) = putC (setC (L.take k)) (cuS.get L k) := by
  rw [List.take_succ_eq_append_getElem h, setC_snoc, getCu h]
set_option maxRecDepth 8000 in
set_option maxHeartbeats 8000000 in
theorem clasI_any (a b : Int) (w : World) :
    Calls Try.prog 16 #[.agg #[.int .i64 a, .int .i64 b]] w fun r w' => (∃ v : Value, r = .returned (.tuple #[v, .bool (clasV a b).2]) ∧ w'.ownsRow w.heap.size 37 2 v (clasV a b).1.length (cuS.flat (clasV a b).1)) ∧ Below w.heap.size w w' := by
  cases h1 : curveB a b
  · have Hv := Lib.hid (show clasV a b = ([], false) by unfold clasV; rw [if_neg (by rw [h1]; exact Bool.false_ne_true)])
    go_enter Try.func16, Try.ntmps16
    go_wp2_with fail
    refine (cvI_lit h1 _).mono ?_; rintro e w1 ⟨rfl, hb1⟩
    have bx := Lib.hid ((Blk.new w 37 #[.int .i64 a, .int .i64 b]).on hb1)
    have sz1 := Lib.hid (show w.heap.size + 1 ≤ w1.heap.size by have := hb1.size; (try simp only [World.size_alloc] at this); omega)
    have Hb1 := Lib.hid (bthen (bal (Below.refl _ _) _) hb1)
    clear hb1
    go_wp2
    go_ret2
    exact ⟨⟨_, by rw [Hv.out]; rfl, by rw [Hv.out]; exact ⟨rfl, Or.inl ⟨rfl, rfl⟩⟩⟩, Hb1.out⟩
  · go_enter Try.func16, Try.ntmps16
    go_wp2_with fail
    refine (cvI_lit h1 _).mono ?_; rintro e w1 ⟨rfl, hb1⟩
    have bx := Lib.hid ((Blk.new w 37 #[.int .i64 a, .int .i64 b]).on hb1)
    have sz1 := Lib.hid (show w.heap.size + 1 ≤ w1.heap.size by have := hb1.size; (try simp only [World.size_alloc] at this); omega)
    have Hb1 := Lib.hid (bthen (bal (Below.refl _ _) _) hb1)
    clear hb1
    have qbx_0 : w1.cell? ⟨w.heap.size, 0, none⟩ = some (.int .i64 a) := bx.out.cell 0
    have qbx_1 : w1.cell? ⟨w.heap.size, 1, none⟩ = some (.int .i64 b) := bx.out.cell 1
    have qbx_l := bx.out.lt
    go_wp2_with fail
    clear qbx_0 qbx_1 qbx_l
    refine (clsI_any a b _ h1).mono ?_; rintro e w2 ⟨hr, hb2⟩
    have Hcl := Lib.hid (fun T (h : clsV a b = some T) => cls_of h1 h)
    have Hv := Lib.hid (show clasV a b = (match clsV a b with | some T => (srt T, true) | none => ([], false)) by unfold clasV; rw [if_pos h1])
    generalize clsV a b = V at hr Hv Hcl
    cases V with
    | none =>
      have hr2 : e = .returned (.tuple #[.slice none 0 0, .slice none 0 0, .bool false]) := hr
      subst hr2
      clear hr
      replace bx := Lib.hid (bx.out.on (hb2))
      have sz2 := Lib.hid (show w1.heap.size + 0 ≤ w2.heap.size by have := hb2.size; (try simp only [World.size_alloc] at this); omega)
      have Hb2 := Lib.hid (bthen (Hb1.out) hb2)
      clear hb2
      go_wp2
      go_ret2
      exact ⟨⟨_, by rw [Hv.out]; rfl, by rw [Hv.out]; exact ⟨rfl, Or.inl ⟨rfl, rfl⟩⟩⟩, Hb2.out⟩
    | some T =>
      obtain ⟨v7, v8, hr2, ho7, ho8⟩ := hr
      subst hr2
      have HC := Lib.hid (Hcl.out T rfl)
      have hT8 := HC.out.len
      obtain ⟨A7, c7, rfl⟩ := own_formI ho7
      clear ho8
      have O7 := Lib.hid ho7
      have GO7 := Lib.hid (World.ownsRow.lt ho7)
      clear ho7
      replace bx := Lib.hid (bx.out.on (hb2))
      have sz2 := Lib.hid (show w1.heap.size + 0 ≤ w2.heap.size by have := hb2.size; (try simp only [World.size_alloc] at this); omega)
      have Hb2 := Lib.hid (bthen (Hb1.out) hb2)
      clear hb2
      go_wp2_with fail
      refine (sortCu_any _ _ (fsT T) _ (by rw [fsT_len]; exact O7.out) (by rw [fsT_len]; omega)).mono ?_
      rintro e w9 ⟨rfl, d, hp, hs, hd9, hb9⟩
      obtain rfl : d = srt T := srt_of HC.out.nod hp hs
      have hld := hp.length_eq
      rw [fsT_len] at hld
      have H9 := Lib.hid hd9; have Hb9 := Lib.hid (Hb2.out.trans (hb9.mono (by have := sz1.out; simp at this ⊢; omega))); clear hd9 hb9 hp hs
      go_wp2
      go_ret2
      exact ⟨⟨_, by rw [Hv.out]; rfl, by rw [Hv.out, ← hld] at *; exact own_mono H9.out (by have := sz1.out; simp at this ⊢; omega)⟩, Hb9.out⟩
set_option maxRecDepth 8000 in
set_option maxHeartbeats 8000000 in
theorem clasS_any (a b : Int) (w : World) :
    Calls Try.prog 17 #[.agg #[.int .i64 a, .int .i64 b]] w fun r w' => (∃ v : Value, r = .returned (.tuple #[v, .bool (clasV a b).2]) ∧ w'.ownsRow w.heap.size 37 2 v (clasV a b).1.length (cuS.flat (clasV a b).1)) ∧ Below w.heap.size w w' := by
  cases h1 : curveB a b
  · have Hv := Lib.hid (show clasV a b = ([], false) by unfold clasV; rw [if_neg (by rw [h1]; exact Bool.false_ne_true)])
    go_enter Try.func17, Try.ntmps17
    go_wp2_with fail
    refine (cvS_lit h1 _).mono ?_; rintro e w1 ⟨rfl, hb1⟩
    have bx := Lib.hid ((Blk.new w 37 #[.int .i64 a, .int .i64 b]).on hb1)
    have sz1 := Lib.hid (show w.heap.size + 1 ≤ w1.heap.size by have := hb1.size; (try simp only [World.size_alloc] at this); omega)
    have Hb1 := Lib.hid (bthen (bal (Below.refl _ _) _) hb1)
    clear hb1
    go_wp2
    go_ret2
    exact ⟨⟨_, by rw [Hv.out]; rfl, by rw [Hv.out]; exact ⟨rfl, Or.inl ⟨rfl, rfl⟩⟩⟩, Hb1.out⟩
  · go_enter Try.func17, Try.ntmps17
    go_wp2_with fail
    refine (cvS_lit h1 _).mono ?_; rintro e w1 ⟨rfl, hb1⟩
    have bx := Lib.hid ((Blk.new w 37 #[.int .i64 a, .int .i64 b]).on hb1)
    have sz1 := Lib.hid (show w.heap.size + 1 ≤ w1.heap.size by have := hb1.size; (try simp only [World.size_alloc] at this); omega)
    have Hb1 := Lib.hid (bthen (bal (Below.refl _ _) _) hb1)
    clear hb1
    have qbx_0 : w1.cell? ⟨w.heap.size, 0, none⟩ = some (.int .i64 a) := bx.out.cell 0
    have qbx_1 : w1.cell? ⟨w.heap.size, 1, none⟩ = some (.int .i64 b) := bx.out.cell 1
    have qbx_l := bx.out.lt
    go_wp2_with fail
    clear qbx_0 qbx_1 qbx_l
    refine (clsS_any a b _ h1).mono ?_; rintro e w2 ⟨hr, hb2⟩
    have Hcl := Lib.hid (fun T (h : clsV a b = some T) => cls_of h1 h)
    have Hv := Lib.hid (show clasV a b = (match clsV a b with | some T => (srt T, true) | none => ([], false)) by unfold clasV; rw [if_pos h1])
    generalize clsV a b = V at hr Hv Hcl
    cases V with
    | none =>
      have hr2 : e = .returned (.tuple #[.slice none 0 0, .slice none 0 0, .bool false]) := hr
      subst hr2
      clear hr
      replace bx := Lib.hid (bx.out.on (hb2))
      have sz2 := Lib.hid (show w1.heap.size + 0 ≤ w2.heap.size by have := hb2.size; (try simp only [World.size_alloc] at this); omega)
      have Hb2 := Lib.hid (bthen (Hb1.out) hb2)
      clear hb2
      go_wp2
      go_ret2
      exact ⟨⟨_, by rw [Hv.out]; rfl, by rw [Hv.out]; exact ⟨rfl, Or.inl ⟨rfl, rfl⟩⟩⟩, Hb2.out⟩
    | some T =>
      obtain ⟨v7, v8, hr2, ho7, ho8⟩ := hr
      subst hr2
      have HC := Lib.hid (Hcl.out T rfl)
      have hT8 := HC.out.len
      obtain ⟨A7, c7, rfl⟩ := own_formI ho7
      clear ho8
      have O7 := Lib.hid ho7
      have GO7 := Lib.hid (World.ownsRow.lt ho7)
      clear ho7
      replace bx := Lib.hid (bx.out.on (hb2))
      have sz2 := Lib.hid (show w1.heap.size + 0 ≤ w2.heap.size by have := hb2.size; (try simp only [World.size_alloc] at this); omega)
      have Hb2 := Lib.hid (bthen (Hb1.out) hb2)
      clear hb2
      go_wp2
      go_loopw [23, 7] (fun i o wr => ∃ k : Nat, k ≤ T.length ∧ i = .int .i64 k ∧ Hid (wr.ownsRow w2.heap.size 37 2 o (setC ((fsT T).take k)).length (cuS.flat (setC ((fsT T).take k)))) ∧ Hid (Below w2.heap.size w2 wr)) (fun i _ _ => T.length - (intOf i).toNat)
      case atStart => exact ⟨0, Nat.zero_le _, rfl, Lib.hid ⟨rfl, Or.inl ⟨rfl, rfl⟩⟩, Lib.hid (Below.refl _ _)⟩
      case round =>
        obtain ⟨k, hk, rfl, Hown, Hb⟩ := hrel
        by_cases hlt : k < T.length
        · have O7r := Lib.hid (own_below O7.out Hb.out)
          obtain ⟨g, rfl, hg, f0, f1⟩ := fsT_cell O7r.out rfl k hlt
          have hi0 : (0 : Int) ≤ (k : Int) := by omega
          have hi1 : (k : Int) < (T.length : Int) := by omega
          have Htk := Lib.hid (setC_take (L := fsT T) (k := k) (by rw [fsT_len]; exact hlt))
          have e1 : cuS.get (fsT T) k = T[k].1 := by rw [getCu (by rw [fsT_len]; exact hlt)]; unfold fsT; rw [List.getElem_map]
          rw [e1] at Htk
          clear e1
          generalize T[k].1 = d at f0 f1 Htk
          have hll : (setC ((fsT T).take k)).length ≤ 1000 := by have h1 := setC_len ((fsT T).take k); rw [List.length_take, fsT_len] at h1; omega
          have Hll := Lib.hid hll; clear hll
          have hbD := bal (Below.refl wr.heap.size wr) (Obj.cells #[.int .i64 d.a, .int .i64 d.b] 37)
          have HbD := Lib.hid (bthen Hb.out hbD)
          have HownD := Lib.hid (own_below Hown.out hbD)
          clear hbD
          go_wp2_with fail
          refine (icPut_any w2.heap.size _ (setC ((fsT T).take k)) d _ HownD.out HbD.out.size Hll.out).mono ?_
          rintro r w5 ⟨⟨v5, rfl, hown5⟩, hb5⟩
          rw [← Htk.out] at hown5
          have Hown5 := Lib.hid hown5
          have Hb5 := Lib.hid (bthen HbD.out hb5)
          clear hown5 hb5
          go_wp2
          go_roundw
          case rel => exact ⟨k + 1, by omega, by go_num, Hown5, Hb5⟩
          case measure => simp [intOf]; omega
        · obtain rfl : k = T.length := by omega
          have hft : (fsT T).take T.length = fsT T := by rw [← fsT_len T]; exact List.take_length
          rw [hft] at Hown
          go_wp2
          go_ret2
          exact ⟨⟨_, by rw [Hv.out]; rfl, by rw [Hv.out]; exact own_mono Hown.out Hb2.out.size⟩, bthen Hb2.out Hb.out⟩
set_option maxRecDepth 8000 in
set_option maxHeartbeats 8000000 in
theorem twoI_any (a b c d : Int) (w : World) :
    Calls Try.prog 22 #[.agg #[.int .i64 a, .int .i64 b], .agg #[.int .i64 c, .int .i64 d]] w fun r w' => r = .returned (.tuple #[.bool (twoV a b c d).1, .bool (twoV a b c d).2]) ∧ Below w.heap.size w w' := by
  cases h1 : curveB a b
  · have Hv := Lib.hid (show twoV a b c d = (false, false) by unfold twoV; rw [if_neg (both_no1 h1)])
    go_enter Try.func22, Try.ntmps22
    go_wp2_with fail
    refine (cvI_lit h1 _).mono ?_; rintro e w1 ⟨rfl, hb1⟩
    have bx := Lib.hid (((Blk.new w 37 #[.int .i64 a, .int .i64 b]).alloc _).on hb1)
    have bw := Lib.hid ((Blk.new1 w _ 37 #[.int .i64 c, .int .i64 d]).on hb1)
    have sz1 := Lib.hid (show w.heap.size + 2 ≤ w1.heap.size by have := hb1.size; (try simp only [World.size_alloc] at this); omega)
    have Hb1 := Lib.hid (bthen (bal (bal (Below.refl _ _) _) _) hb1)
    clear hb1
    go_wp2
    go_ret2
    exact ⟨by rw [Hv.out]; rfl, Hb1.out⟩
  · cases h2 : curveB c d
    · have Hv := Lib.hid (show twoV a b c d = (false, false) by unfold twoV; rw [if_neg (both_no2 h2)])
      go_enter Try.func22, Try.ntmps22
      go_wp2_with fail
      refine (cvI_lit h1 _).mono ?_; rintro e w1 ⟨rfl, hb1⟩
      have bx := Lib.hid (((Blk.new w 37 #[.int .i64 a, .int .i64 b]).alloc _).on hb1)
      have bw := Lib.hid ((Blk.new1 w _ 37 #[.int .i64 c, .int .i64 d]).on hb1)
      have sz1 := Lib.hid (show w.heap.size + 2 ≤ w1.heap.size by have := hb1.size; (try simp only [World.size_alloc] at this); omega)
      have Hb1 := Lib.hid (bthen (bal (bal (Below.refl _ _) _) _) hb1)
      clear hb1
      have qbx_0 : w1.cell? ⟨w.heap.size, 0, none⟩ = some (.int .i64 a) := bx.out.cell 0
      have qbx_1 : w1.cell? ⟨w.heap.size, 1, none⟩ = some (.int .i64 b) := bx.out.cell 1
      have qbx_l := bx.out.lt
      have qbw_0 : w1.cell? ⟨w.heap.size + 1, 0, none⟩ = some (.int .i64 c) := bw.out.cell 0
      have qbw_1 : w1.cell? ⟨w.heap.size + 1, 1, none⟩ = some (.int .i64 d) := bw.out.cell 1
      have qbw_l := bw.out.lt
      go_wp2_with fail
      clear qbx_0 qbx_1 qbx_l qbw_0 qbw_1 qbw_l
      refine (cvI_lit h2 _).mono ?_; rintro e w2 ⟨rfl, hb2⟩
      replace bx := Lib.hid (bx.out.on (hb2))
      replace bw := Lib.hid (bw.out.on (hb2))
      have sz2 := Lib.hid (show w1.heap.size + 0 ≤ w2.heap.size by have := hb2.size; (try simp only [World.size_alloc] at this); omega)
      have Hb2 := Lib.hid (bthen (Hb1.out) hb2)
      clear hb2
      go_wp2
      go_ret2
      exact ⟨by rw [Hv.out]; rfl, Hb2.out⟩
    · have Hv := Lib.hid (show twoV a b c d = (if (allV a b).2 = true then (decide (smC c d ∈ (allV a b).1), true) else (false, false)) by unfold twoV; rw [if_pos ⟨h1, h2⟩])
      go_enter Try.func22, Try.ntmps22
      go_wp2_with fail
      refine (cvI_lit h1 _).mono ?_; rintro e w1 ⟨rfl, hb1⟩
      have bx := Lib.hid (((Blk.new w 37 #[.int .i64 a, .int .i64 b]).alloc _).on hb1)
      have bw := Lib.hid ((Blk.new1 w _ 37 #[.int .i64 c, .int .i64 d]).on hb1)
      have sz1 := Lib.hid (show w.heap.size + 2 ≤ w1.heap.size by have := hb1.size; (try simp only [World.size_alloc] at this); omega)
      have Hb1 := Lib.hid (bthen (bal (bal (Below.refl _ _) _) _) hb1)
      clear hb1
      have qbx_0 : w1.cell? ⟨w.heap.size, 0, none⟩ = some (.int .i64 a) := bx.out.cell 0
      have qbx_1 : w1.cell? ⟨w.heap.size, 1, none⟩ = some (.int .i64 b) := bx.out.cell 1
      have qbx_l := bx.out.lt
      have qbw_0 : w1.cell? ⟨w.heap.size + 1, 0, none⟩ = some (.int .i64 c) := bw.out.cell 0
      have qbw_1 : w1.cell? ⟨w.heap.size + 1, 1, none⟩ = some (.int .i64 d) := bw.out.cell 1
      have qbw_l := bw.out.lt
      go_wp2_with fail
      clear qbx_0 qbx_1 qbx_l qbw_0 qbw_1 qbw_l
      refine (cvI_lit h2 _).mono ?_; rintro e w2 ⟨rfl, hb2⟩
      replace bx := Lib.hid (bx.out.on (hb2))
      replace bw := Lib.hid (bw.out.on (hb2))
      have sz2 := Lib.hid (show w1.heap.size + 0 ≤ w2.heap.size by have := hb2.size; (try simp only [World.size_alloc] at this); omega)
      have Hb2 := Lib.hid (bthen (Hb1.out) hb2)
      clear hb2
      have qbx_0 : w2.cell? ⟨w.heap.size, 0, none⟩ = some (.int .i64 a) := bx.out.cell 0
      have qbx_1 : w2.cell? ⟨w.heap.size, 1, none⟩ = some (.int .i64 b) := bx.out.cell 1
      have qbx_l := bx.out.lt
      have qbw_0 : w2.cell? ⟨w.heap.size + 1, 0, none⟩ = some (.int .i64 c) := bw.out.cell 0
      have qbw_1 : w2.cell? ⟨w.heap.size + 1, 1, none⟩ = some (.int .i64 d) := bw.out.cell 1
      have qbw_l := bw.out.lt
      go_wp2_with fail
      clear qbx_0 qbx_1 qbx_l qbw_0 qbw_1 qbw_l
      refine (twoNb_any a b _ h1).mono ?_; rintro e w3 ⟨⟨vl, rfl, hol⟩, hb3⟩
      obtain ⟨l, ok, hlo⟩ : ∃ l k, allV a b = (l, k) := ⟨_, _, rfl⟩
      rw [hlo] at hol Hv
      rw [hlo]
      clear hlo
      obtain ⟨Al, cl, rfl⟩ := own_formI hol
      have Ol := Lib.hid hol
      have GOl := Lib.hid (World.ownsRow.lt hol)
      clear hol
      replace bx := Lib.hid (bx.out.on (hb3))
      replace bw := Lib.hid (bw.out.on (hb3))
      have sz3 := Lib.hid (show w2.heap.size + 0 ≤ w3.heap.size by have := hb3.size; (try simp only [World.size_alloc] at this); omega)
      have Hb3 := Lib.hid (bthen (Hb2.out) hb3)
      clear hb3
      have qbx_0 : w3.cell? ⟨w.heap.size, 0, none⟩ = some (.int .i64 a) := bx.out.cell 0
      have qbx_1 : w3.cell? ⟨w.heap.size, 1, none⟩ = some (.int .i64 b) := bx.out.cell 1
      have qbx_l := bx.out.lt
      have qbw_0 : w3.cell? ⟨w.heap.size + 1, 0, none⟩ = some (.int .i64 c) := bw.out.cell 0
      have qbw_1 : w3.cell? ⟨w.heap.size + 1, 1, none⟩ = some (.int .i64 d) := bw.out.cell 1
      have qbw_l := bw.out.lt
      go_wp2_with fail
      clear qbx_0 qbx_1 qbx_l qbw_0 qbw_1 qbw_l
      refine (smallest_any c d _ h2).mono ?_; rintro e w4 ⟨rfl, hb4⟩
      replace bx := Lib.hid (bx.out.on (hb4))
      replace bw := Lib.hid (bw.out.on (hb4))
      replace Ol := Lib.hid (own_below Ol.out (hb4))
      have sz4 := Lib.hid (show w3.heap.size + 0 ≤ w4.heap.size by have := hb4.size; (try simp only [World.size_alloc] at this); omega)
      have Hb4 := Lib.hid (bthen (Hb3.out) hb4)
      clear hb4
      generalize smC c d = m at Hv ⊢
      cases ok
      · have Hv2 := Lib.hid (show twoV a b c d = (false, false) from Hv.out)
        go_wp2
        go_ret2
        exact ⟨by rw [Hv2.out]; rfl, bal (Hb4.out) _⟩
      · have Hv2 := Lib.hid (show twoV a b c d = (decide (m ∈ l), true) from Hv.out)
        go_wp2_with fail
        refine (containsCu_any _ l m _ ((Rd.of_own Ol.out rfl).on (bal (Below.refl _ _) _))).mono ?_; rintro e w5 ⟨rfl, hb5⟩
        replace bx := Lib.hid (bx.out.on (bthen (bal (Below.refl _ _) _) hb5))
        replace bw := Lib.hid (bw.out.on (bthen (bal (Below.refl _ _) _) hb5))
        replace Ol := Lib.hid (own_below Ol.out (bthen (bal (Below.refl _ _) _) hb5))
        have bm := Lib.hid ((Blk.new w4 37 #[.int .i64 m.a, .int .i64 m.b]).on hb5)
        have sz5 := Lib.hid (show w4.heap.size + 1 ≤ w5.heap.size by have := hb5.size; (try simp only [World.size_alloc] at this); omega)
        have Hb5 := Lib.hid (bthen (bal (Hb4.out) _) hb5)
        clear hb5
        go_wp2
        go_ret2
        exact ⟨by rw [Hv2.out]; rfl, Hb5.out⟩
set_option maxRecDepth 8000 in
set_option maxHeartbeats 8000000 in
theorem twoS_any (a b c d : Int) (w : World) :
    Calls Try.prog 28 #[.agg #[.int .i64 a, .int .i64 b], .agg #[.int .i64 c, .int .i64 d]] w fun r w' => r = .returned (.tuple #[.bool (twoV a b c d).1, .bool (twoV a b c d).2]) ∧ Below w.heap.size w w' := by
  cases h1 : curveB a b
  · have Hv := Lib.hid (show twoV a b c d = (false, false) by unfold twoV; rw [if_neg (both_no1 h1)])
    go_enter Try.func28, Try.ntmps28
    go_wp2_with fail
    refine (cvS_lit h1 _).mono ?_; rintro e w1 ⟨rfl, hb1⟩
    have bx := Lib.hid (((Blk.new w 37 #[.int .i64 a, .int .i64 b]).alloc _).on hb1)
    have bw := Lib.hid ((Blk.new1 w _ 37 #[.int .i64 c, .int .i64 d]).on hb1)
    have sz1 := Lib.hid (show w.heap.size + 2 ≤ w1.heap.size by have := hb1.size; (try simp only [World.size_alloc] at this); omega)
    have Hb1 := Lib.hid (bthen (bal (bal (Below.refl _ _) _) _) hb1)
    clear hb1
    go_wp2
    go_ret2
    exact ⟨by rw [Hv.out]; rfl, Hb1.out⟩
  · cases h2 : curveB c d
    · have Hv := Lib.hid (show twoV a b c d = (false, false) by unfold twoV; rw [if_neg (both_no2 h2)])
      go_enter Try.func28, Try.ntmps28
      go_wp2_with fail
      refine (cvS_lit h1 _).mono ?_; rintro e w1 ⟨rfl, hb1⟩
      have bx := Lib.hid (((Blk.new w 37 #[.int .i64 a, .int .i64 b]).alloc _).on hb1)
      have bw := Lib.hid ((Blk.new1 w _ 37 #[.int .i64 c, .int .i64 d]).on hb1)
      have sz1 := Lib.hid (show w.heap.size + 2 ≤ w1.heap.size by have := hb1.size; (try simp only [World.size_alloc] at this); omega)
      have Hb1 := Lib.hid (bthen (bal (bal (Below.refl _ _) _) _) hb1)
      clear hb1
      have qbx_0 : w1.cell? ⟨w.heap.size, 0, none⟩ = some (.int .i64 a) := bx.out.cell 0
      have qbx_1 : w1.cell? ⟨w.heap.size, 1, none⟩ = some (.int .i64 b) := bx.out.cell 1
      have qbx_l := bx.out.lt
      have qbw_0 : w1.cell? ⟨w.heap.size + 1, 0, none⟩ = some (.int .i64 c) := bw.out.cell 0
      have qbw_1 : w1.cell? ⟨w.heap.size + 1, 1, none⟩ = some (.int .i64 d) := bw.out.cell 1
      have qbw_l := bw.out.lt
      go_wp2_with fail
      clear qbx_0 qbx_1 qbx_l qbw_0 qbw_1 qbw_l
      refine (cvS_lit h2 _).mono ?_; rintro e w2 ⟨rfl, hb2⟩
      replace bx := Lib.hid (bx.out.on (hb2))
      replace bw := Lib.hid (bw.out.on (hb2))
      have sz2 := Lib.hid (show w1.heap.size + 0 ≤ w2.heap.size by have := hb2.size; (try simp only [World.size_alloc] at this); omega)
      have Hb2 := Lib.hid (bthen (Hb1.out) hb2)
      clear hb2
      go_wp2
      go_ret2
      exact ⟨by rw [Hv.out]; rfl, Hb2.out⟩
    · have Hv := Lib.hid (show twoV a b c d = (if (allV a b).2 = true then (decide (smC c d ∈ (allV a b).1), true) else (false, false)) by unfold twoV; rw [if_pos ⟨h1, h2⟩])
      go_enter Try.func28, Try.ntmps28
      go_wp2_with fail
      refine (cvS_lit h1 _).mono ?_; rintro e w1 ⟨rfl, hb1⟩
      have bx := Lib.hid (((Blk.new w 37 #[.int .i64 a, .int .i64 b]).alloc _).on hb1)
      have bw := Lib.hid ((Blk.new1 w _ 37 #[.int .i64 c, .int .i64 d]).on hb1)
      have sz1 := Lib.hid (show w.heap.size + 2 ≤ w1.heap.size by have := hb1.size; (try simp only [World.size_alloc] at this); omega)
      have Hb1 := Lib.hid (bthen (bal (bal (Below.refl _ _) _) _) hb1)
      clear hb1
      have qbx_0 : w1.cell? ⟨w.heap.size, 0, none⟩ = some (.int .i64 a) := bx.out.cell 0
      have qbx_1 : w1.cell? ⟨w.heap.size, 1, none⟩ = some (.int .i64 b) := bx.out.cell 1
      have qbx_l := bx.out.lt
      have qbw_0 : w1.cell? ⟨w.heap.size + 1, 0, none⟩ = some (.int .i64 c) := bw.out.cell 0
      have qbw_1 : w1.cell? ⟨w.heap.size + 1, 1, none⟩ = some (.int .i64 d) := bw.out.cell 1
      have qbw_l := bw.out.lt
      go_wp2_with fail
      clear qbx_0 qbx_1 qbx_l qbw_0 qbw_1 qbw_l
      refine (cvS_lit h2 _).mono ?_; rintro e w2 ⟨rfl, hb2⟩
      replace bx := Lib.hid (bx.out.on (hb2))
      replace bw := Lib.hid (bw.out.on (hb2))
      have sz2 := Lib.hid (show w1.heap.size + 0 ≤ w2.heap.size by have := hb2.size; (try simp only [World.size_alloc] at this); omega)
      have Hb2 := Lib.hid (bthen (Hb1.out) hb2)
      clear hb2
      have qbx_0 : w2.cell? ⟨w.heap.size, 0, none⟩ = some (.int .i64 a) := bx.out.cell 0
      have qbx_1 : w2.cell? ⟨w.heap.size, 1, none⟩ = some (.int .i64 b) := bx.out.cell 1
      have qbx_l := bx.out.lt
      have qbw_0 : w2.cell? ⟨w.heap.size + 1, 0, none⟩ = some (.int .i64 c) := bw.out.cell 0
      have qbw_1 : w2.cell? ⟨w.heap.size + 1, 1, none⟩ = some (.int .i64 d) := bw.out.cell 1
      have qbw_l := bw.out.lt
      go_wp2_with fail
      clear qbx_0 qbx_1 qbx_l qbw_0 qbw_1 qbw_l
      refine (icAll_any a b _ h1).mono ?_; rintro e w3 ⟨⟨vl, rfl, hol⟩, hb3⟩
      obtain ⟨l, ok, hlo⟩ : ∃ l k, allV a b = (l, k) := ⟨_, _, rfl⟩
      rw [hlo] at hol Hv
      rw [hlo]
      clear hlo
      obtain ⟨Al, cl, rfl⟩ := own_formI hol
      have Ol := Lib.hid hol
      have GOl := Lib.hid (World.ownsRow.lt hol)
      clear hol
      replace bx := Lib.hid (bx.out.on (hb3))
      replace bw := Lib.hid (bw.out.on (hb3))
      have sz3 := Lib.hid (show w2.heap.size + 0 ≤ w3.heap.size by have := hb3.size; (try simp only [World.size_alloc] at this); omega)
      have Hb3 := Lib.hid (bthen (Hb2.out) hb3)
      clear hb3
      cases ok
      · have Hv2 := Lib.hid (show twoV a b c d = (false, false) from Hv.out)
        go_wp2
        go_ret2
        exact ⟨by rw [Hv2.out]; rfl, Hb3.out⟩
      · have Hv2 := Lib.hid (show twoV a b c d = (decide (smC c d ∈ l), true) from Hv.out)
        have qbx_0 : w3.cell? ⟨w.heap.size, 0, none⟩ = some (.int .i64 a) := bx.out.cell 0
        have qbx_1 : w3.cell? ⟨w.heap.size, 1, none⟩ = some (.int .i64 b) := bx.out.cell 1
        have qbx_l := bx.out.lt
        have qbw_0 : w3.cell? ⟨w.heap.size + 1, 0, none⟩ = some (.int .i64 c) := bw.out.cell 0
        have qbw_1 : w3.cell? ⟨w.heap.size + 1, 1, none⟩ = some (.int .i64 d) := bw.out.cell 1
        have qbw_l := bw.out.lt
        go_wp2_with fail
        clear qbx_0 qbx_1 qbx_l qbw_0 qbw_1 qbw_l
        refine (ecSmallest_any c d _ h2).mono ?_; rintro e w4 ⟨rfl, hb4⟩
        replace bx := Lib.hid (bx.out.on (hb4))
        replace bw := Lib.hid (bw.out.on (hb4))
        replace Ol := Lib.hid (own_below Ol.out (hb4))
        have sz4 := Lib.hid (show w3.heap.size + 0 ≤ w4.heap.size by have := hb4.size; (try simp only [World.size_alloc] at this); omega)
        have Hb4 := Lib.hid (bthen (Hb3.out) hb4)
        clear hb4
        generalize smC c d = m at Hv2 ⊢
        go_wp2_with fail
        refine (icAt_any _ l m _ ((Rd.of_own Ol.out rfl).on (bal (Below.refl _ _) _))).mono ?_; rintro e w5 ⟨rfl, hb5⟩
        replace bx := Lib.hid (bx.out.on (bthen (bal (Below.refl _ _) _) hb5))
        replace bw := Lib.hid (bw.out.on (bthen (bal (Below.refl _ _) _) hb5))
        replace Ol := Lib.hid (own_below Ol.out (bthen (bal (Below.refl _ _) _) hb5))
        have bm := Lib.hid ((Blk.new w4 37 #[.int .i64 m.a, .int .i64 m.b]).on hb5)
        have sz5 := Lib.hid (show w4.heap.size + 1 ≤ w5.heap.size by have := hb5.size; (try simp only [World.size_alloc] at this); omega)
        have Hb5 := Lib.hid (bthen (bal (Hb4.out) _) hb5)
        clear hb5
        have Hp := Lib.hid (atC_pos (L := l) (c := m))
        go_wp2
        go_ret2
        exact ⟨by rw [Hv2.out, ← Hp.out]; rfl, Hb5.out⟩
set_option maxRecDepth 8000 in
set_option maxHeartbeats 8000000 in
theorem isoI_any (a b c d : Int) (w : World) :
    Calls Try.prog 26 #[.agg #[.int .i64 a, .int .i64 b], .agg #[.int .i64 c, .int .i64 d]] w fun r w' => r = .returned (.tuple #[.bool (isoV a b c d).1, .bool (isoV a b c d).2]) ∧ Below w.heap.size w w' := by
  cases h1 : curveB a b
  · have Hv := Lib.hid (show isoV a b c d = (false, false) by unfold isoV; rw [if_neg (both_no1 h1)])
    go_enter Try.func26, Try.ntmps26
    go_wp2_with fail
    refine (cvI_lit h1 _).mono ?_; rintro e w1 ⟨rfl, hb1⟩
    have bx := Lib.hid (((Blk.new w 37 #[.int .i64 a, .int .i64 b]).alloc _).on hb1)
    have bw := Lib.hid ((Blk.new1 w _ 37 #[.int .i64 c, .int .i64 d]).on hb1)
    have sz1 := Lib.hid (show w.heap.size + 2 ≤ w1.heap.size by have := hb1.size; (try simp only [World.size_alloc] at this); omega)
    have Hb1 := Lib.hid (bthen (bal (bal (Below.refl _ _) _) _) hb1)
    clear hb1
    go_wp2
    go_ret2
    exact ⟨by rw [Hv.out]; rfl, Hb1.out⟩
  · cases h2 : curveB c d
    · have Hv := Lib.hid (show isoV a b c d = (false, false) by unfold isoV; rw [if_neg (both_no2 h2)])
      go_enter Try.func26, Try.ntmps26
      go_wp2_with fail
      refine (cvI_lit h1 _).mono ?_; rintro e w1 ⟨rfl, hb1⟩
      have bx := Lib.hid (((Blk.new w 37 #[.int .i64 a, .int .i64 b]).alloc _).on hb1)
      have bw := Lib.hid ((Blk.new1 w _ 37 #[.int .i64 c, .int .i64 d]).on hb1)
      have sz1 := Lib.hid (show w.heap.size + 2 ≤ w1.heap.size by have := hb1.size; (try simp only [World.size_alloc] at this); omega)
      have Hb1 := Lib.hid (bthen (bal (bal (Below.refl _ _) _) _) hb1)
      clear hb1
      have qbx_0 : w1.cell? ⟨w.heap.size, 0, none⟩ = some (.int .i64 a) := bx.out.cell 0
      have qbx_1 : w1.cell? ⟨w.heap.size, 1, none⟩ = some (.int .i64 b) := bx.out.cell 1
      have qbx_l := bx.out.lt
      have qbw_0 : w1.cell? ⟨w.heap.size + 1, 0, none⟩ = some (.int .i64 c) := bw.out.cell 0
      have qbw_1 : w1.cell? ⟨w.heap.size + 1, 1, none⟩ = some (.int .i64 d) := bw.out.cell 1
      have qbw_l := bw.out.lt
      go_wp2_with fail
      clear qbx_0 qbx_1 qbx_l qbw_0 qbw_1 qbw_l
      refine (cvI_lit h2 _).mono ?_; rintro e w2 ⟨rfl, hb2⟩
      replace bx := Lib.hid (bx.out.on (hb2))
      replace bw := Lib.hid (bw.out.on (hb2))
      have sz2 := Lib.hid (show w1.heap.size + 0 ≤ w2.heap.size by have := hb2.size; (try simp only [World.size_alloc] at this); omega)
      have Hb2 := Lib.hid (bthen (Hb1.out) hb2)
      clear hb2
      go_wp2
      go_ret2
      exact ⟨by rw [Hv.out]; rfl, Hb2.out⟩
    · have Hv := Lib.hid (show isoV a b c d = (decide (smC a b = smC c d), true) by unfold isoV; rw [if_pos ⟨h1, h2⟩])
      have hql := eqlCuI
      go_enter Try.func26, Try.ntmps26
      go_wp2_with fail
      refine (cvI_lit h1 _).mono ?_; rintro e w1 ⟨rfl, hb1⟩
      have bx := Lib.hid (((Blk.new w 37 #[.int .i64 a, .int .i64 b]).alloc _).on hb1)
      have bw := Lib.hid ((Blk.new1 w _ 37 #[.int .i64 c, .int .i64 d]).on hb1)
      have sz1 := Lib.hid (show w.heap.size + 2 ≤ w1.heap.size by have := hb1.size; (try simp only [World.size_alloc] at this); omega)
      have Hb1 := Lib.hid (bthen (bal (bal (Below.refl _ _) _) _) hb1)
      clear hb1
      have qbx_0 : w1.cell? ⟨w.heap.size, 0, none⟩ = some (.int .i64 a) := bx.out.cell 0
      have qbx_1 : w1.cell? ⟨w.heap.size, 1, none⟩ = some (.int .i64 b) := bx.out.cell 1
      have qbx_l := bx.out.lt
      have qbw_0 : w1.cell? ⟨w.heap.size + 1, 0, none⟩ = some (.int .i64 c) := bw.out.cell 0
      have qbw_1 : w1.cell? ⟨w.heap.size + 1, 1, none⟩ = some (.int .i64 d) := bw.out.cell 1
      have qbw_l := bw.out.lt
      go_wp2_with fail
      clear qbx_0 qbx_1 qbx_l qbw_0 qbw_1 qbw_l
      refine (cvI_lit h2 _).mono ?_; rintro e w2 ⟨rfl, hb2⟩
      replace bx := Lib.hid (bx.out.on (hb2))
      replace bw := Lib.hid (bw.out.on (hb2))
      have sz2 := Lib.hid (show w1.heap.size + 0 ≤ w2.heap.size by have := hb2.size; (try simp only [World.size_alloc] at this); omega)
      have Hb2 := Lib.hid (bthen (Hb1.out) hb2)
      clear hb2
      have qbx_0 : w2.cell? ⟨w.heap.size, 0, none⟩ = some (.int .i64 a) := bx.out.cell 0
      have qbx_1 : w2.cell? ⟨w.heap.size, 1, none⟩ = some (.int .i64 b) := bx.out.cell 1
      have qbx_l := bx.out.lt
      have qbw_0 : w2.cell? ⟨w.heap.size + 1, 0, none⟩ = some (.int .i64 c) := bw.out.cell 0
      have qbw_1 : w2.cell? ⟨w.heap.size + 1, 1, none⟩ = some (.int .i64 d) := bw.out.cell 1
      have qbw_l := bw.out.lt
      go_wp2_with fail
      clear qbx_0 qbx_1 qbx_l qbw_0 qbw_1 qbw_l
      refine (smallest_any a b _ h1).mono ?_; rintro e w3 ⟨rfl, hb3⟩
      replace bx := Lib.hid (bx.out.on (hb3))
      replace bw := Lib.hid (bw.out.on (hb3))
      have sz3 := Lib.hid (show w2.heap.size + 0 ≤ w3.heap.size by have := hb3.size; (try simp only [World.size_alloc] at this); omega)
      have Hb3 := Lib.hid (bthen (Hb2.out) hb3)
      clear hb3
      generalize smC a b = m at Hv ⊢
      have qbx_0 : w3.cell? ⟨w.heap.size, 0, none⟩ = some (.int .i64 a) := bx.out.cell 0
      have qbx_1 : w3.cell? ⟨w.heap.size, 1, none⟩ = some (.int .i64 b) := bx.out.cell 1
      have qbx_l := bx.out.lt
      have qbw_0 : w3.cell? ⟨w.heap.size + 1, 0, none⟩ = some (.int .i64 c) := bw.out.cell 0
      have qbw_1 : w3.cell? ⟨w.heap.size + 1, 1, none⟩ = some (.int .i64 d) := bw.out.cell 1
      have qbw_l := bw.out.lt
      go_wp2_with fail
      clear qbx_0 qbx_1 qbx_l qbw_0 qbw_1 qbw_l
      refine (smallest_any c d _ h2).mono ?_; rintro e w4 ⟨rfl, hb4⟩
      replace bx := Lib.hid (bx.out.on (bthen (bal (Below.refl _ _) _) hb4))
      replace bw := Lib.hid (bw.out.on (bthen (bal (Below.refl _ _) _) hb4))
      have bm := Lib.hid ((Blk.new w3 37 #[.int .i64 m.a, .int .i64 m.b]).on hb4)
      have sz4 := Lib.hid (show w3.heap.size + 1 ≤ w4.heap.size by have := hb4.size; (try simp only [World.size_alloc] at this); omega)
      have Hb4 := Lib.hid (bthen (bal (Hb3.out) _) hb4)
      clear hb4
      generalize smC c d = n at Hv ⊢
      have Hcu := Lib.hid (cu_eq (x := m) (y := n))
      have qbm_0 : w4.cell? ⟨w3.heap.size, 0, none⟩ = some (.int .i64 m.a) := bm.out.cell 0
      have qbm_1 : w4.cell? ⟨w3.heap.size, 1, none⟩ = some (.int .i64 m.b) := bm.out.cell 1
      have qbm_l := bm.out.lt
      go_wp2
      clear qbm_0 qbm_1 qbm_l
      go_ret2
      exact ⟨by rw [Hv.out, ← Hcu.out]; rfl, bal (Hb4.out) _⟩
set_option maxRecDepth 8000 in
set_option maxHeartbeats 8000000 in
theorem stpI_any (a b c d : Int) (w : World) :
    Calls Try.prog 19 #[.agg #[.int .i64 a, .int .i64 b], .agg #[.int .i64 c, .int .i64 d]] w fun r w' => r = .returned (.tuple #[.int .i64 (stpV a b c d).1, .bool (stpV a b c d).2]) ∧ Below w.heap.size w w' := by
  cases h1 : curveB a b
  · have Hv := Lib.hid (show stpV a b c d = (0, false) by unfold stpV; rw [if_neg (both_no1 h1)])
    go_enter Try.func19, Try.ntmps19
    go_wp2_with fail
    refine (cvI_lit h1 _).mono ?_; rintro e w1 ⟨rfl, hb1⟩
    have bx := Lib.hid (((Blk.new w 37 #[.int .i64 a, .int .i64 b]).alloc _).on hb1)
    have bw := Lib.hid ((Blk.new1 w _ 37 #[.int .i64 c, .int .i64 d]).on hb1)
    have sz1 := Lib.hid (show w.heap.size + 2 ≤ w1.heap.size by have := hb1.size; (try simp only [World.size_alloc] at this); omega)
    have Hb1 := Lib.hid (bthen (bal (bal (Below.refl _ _) _) _) hb1)
    clear hb1
    go_wp2
    go_ret2
    exact ⟨by rw [Hv.out]; rfl, Hb1.out⟩
  · cases h2 : curveB c d
    · have Hv := Lib.hid (show stpV a b c d = (0, false) by unfold stpV; rw [if_neg (both_no2 h2)])
      go_enter Try.func19, Try.ntmps19
      go_wp2_with fail
      refine (cvI_lit h1 _).mono ?_; rintro e w1 ⟨rfl, hb1⟩
      have bx := Lib.hid (((Blk.new w 37 #[.int .i64 a, .int .i64 b]).alloc _).on hb1)
      have bw := Lib.hid ((Blk.new1 w _ 37 #[.int .i64 c, .int .i64 d]).on hb1)
      have sz1 := Lib.hid (show w.heap.size + 2 ≤ w1.heap.size by have := hb1.size; (try simp only [World.size_alloc] at this); omega)
      have Hb1 := Lib.hid (bthen (bal (bal (Below.refl _ _) _) _) hb1)
      clear hb1
      have qbx_0 : w1.cell? ⟨w.heap.size, 0, none⟩ = some (.int .i64 a) := bx.out.cell 0
      have qbx_1 : w1.cell? ⟨w.heap.size, 1, none⟩ = some (.int .i64 b) := bx.out.cell 1
      have qbx_l := bx.out.lt
      have qbw_0 : w1.cell? ⟨w.heap.size + 1, 0, none⟩ = some (.int .i64 c) := bw.out.cell 0
      have qbw_1 : w1.cell? ⟨w.heap.size + 1, 1, none⟩ = some (.int .i64 d) := bw.out.cell 1
      have qbw_l := bw.out.lt
      go_wp2_with fail
      clear qbx_0 qbx_1 qbx_l qbw_0 qbw_1 qbw_l
      refine (cvI_lit h2 _).mono ?_; rintro e w2 ⟨rfl, hb2⟩
      replace bx := Lib.hid (bx.out.on (hb2))
      replace bw := Lib.hid (bw.out.on (hb2))
      have sz2 := Lib.hid (show w1.heap.size + 0 ≤ w2.heap.size by have := hb2.size; (try simp only [World.size_alloc] at this); omega)
      have Hb2 := Lib.hid (bthen (Hb1.out) hb2)
      clear hb2
      go_wp2
      go_ret2
      exact ⟨by rw [Hv.out]; rfl, Hb2.out⟩
    · have Hv := Lib.hid (show stpV a b c d = stpO (clsV a b) (smC c d) by unfold stpV; rw [if_pos ⟨h1, h2⟩])
      go_enter Try.func19, Try.ntmps19
      go_wp2_with fail
      refine (cvI_lit h1 _).mono ?_; rintro e w1 ⟨rfl, hb1⟩
      have bx := Lib.hid (((Blk.new w 37 #[.int .i64 a, .int .i64 b]).alloc _).on hb1)
      have bw := Lib.hid ((Blk.new1 w _ 37 #[.int .i64 c, .int .i64 d]).on hb1)
      have sz1 := Lib.hid (show w.heap.size + 2 ≤ w1.heap.size by have := hb1.size; (try simp only [World.size_alloc] at this); omega)
      have Hb1 := Lib.hid (bthen (bal (bal (Below.refl _ _) _) _) hb1)
      clear hb1
      have qbx_0 : w1.cell? ⟨w.heap.size, 0, none⟩ = some (.int .i64 a) := bx.out.cell 0
      have qbx_1 : w1.cell? ⟨w.heap.size, 1, none⟩ = some (.int .i64 b) := bx.out.cell 1
      have qbx_l := bx.out.lt
      have qbw_0 : w1.cell? ⟨w.heap.size + 1, 0, none⟩ = some (.int .i64 c) := bw.out.cell 0
      have qbw_1 : w1.cell? ⟨w.heap.size + 1, 1, none⟩ = some (.int .i64 d) := bw.out.cell 1
      have qbw_l := bw.out.lt
      go_wp2_with fail
      clear qbx_0 qbx_1 qbx_l qbw_0 qbw_1 qbw_l
      refine (cvI_lit h2 _).mono ?_; rintro e w2 ⟨rfl, hb2⟩
      replace bx := Lib.hid (bx.out.on (hb2))
      replace bw := Lib.hid (bw.out.on (hb2))
      have sz2 := Lib.hid (show w1.heap.size + 0 ≤ w2.heap.size by have := hb2.size; (try simp only [World.size_alloc] at this); omega)
      have Hb2 := Lib.hid (bthen (Hb1.out) hb2)
      clear hb2
      have qbx_0 : w2.cell? ⟨w.heap.size, 0, none⟩ = some (.int .i64 a) := bx.out.cell 0
      have qbx_1 : w2.cell? ⟨w.heap.size, 1, none⟩ = some (.int .i64 b) := bx.out.cell 1
      have qbx_l := bx.out.lt
      have qbw_0 : w2.cell? ⟨w.heap.size + 1, 0, none⟩ = some (.int .i64 c) := bw.out.cell 0
      have qbw_1 : w2.cell? ⟨w.heap.size + 1, 1, none⟩ = some (.int .i64 d) := bw.out.cell 1
      have qbw_l := bw.out.lt
      go_wp2_with fail
      clear qbx_0 qbx_1 qbx_l qbw_0 qbw_1 qbw_l
      refine (clsI_any a b _ h1).mono ?_; rintro e w3 ⟨hr, hb3⟩
      have Hcl := Lib.hid (fun T (h : clsV a b = some T) => cls_of h1 h)
      generalize clsV a b = V at hr Hv Hcl
      cases V with
      | none =>
        have hr2 : e = .returned (.tuple #[.slice none 0 0, .slice none 0 0, .bool false]) := hr
        subst hr2
        clear hr
        replace bx := Lib.hid (bx.out.on (hb3))
        replace bw := Lib.hid (bw.out.on (hb3))
        have sz3 := Lib.hid (show w2.heap.size + 0 ≤ w3.heap.size by have := hb3.size; (try simp only [World.size_alloc] at this); omega)
        have Hb3 := Lib.hid (bthen (Hb2.out) hb3)
        clear hb3
        have Hv2 := Lib.hid (show stpV a b c d = (0, false) from Hv.out)
        have qbx_0 : w3.cell? ⟨w.heap.size, 0, none⟩ = some (.int .i64 a) := bx.out.cell 0
        have qbx_1 : w3.cell? ⟨w.heap.size, 1, none⟩ = some (.int .i64 b) := bx.out.cell 1
        have qbx_l := bx.out.lt
        have qbw_0 : w3.cell? ⟨w.heap.size + 1, 0, none⟩ = some (.int .i64 c) := bw.out.cell 0
        have qbw_1 : w3.cell? ⟨w.heap.size + 1, 1, none⟩ = some (.int .i64 d) := bw.out.cell 1
        have qbw_l := bw.out.lt
        go_wp2_with fail
        clear qbx_0 qbx_1 qbx_l qbw_0 qbw_1 qbw_l
        refine (smallest_any c d _ h2).mono ?_; rintro e w4 ⟨rfl, hb4⟩
        replace bx := Lib.hid (bx.out.on (hb4))
        replace bw := Lib.hid (bw.out.on (hb4))
        have sz4 := Lib.hid (show w3.heap.size + 0 ≤ w4.heap.size by have := hb4.size; (try simp only [World.size_alloc] at this); omega)
        have Hb4 := Lib.hid (bthen (Hb3.out) hb4)
        clear hb4
        clear Hv
        generalize smC c d = m
        go_wp2_with fail
        refine (indexCu_any _ [] m _ (Rd.nil _ _)).mono ?_; rintro e w5 ⟨rfl, hb5⟩
        replace bx := Lib.hid (bx.out.on (bthen (bal (Below.refl _ _) _) hb5))
        replace bw := Lib.hid (bw.out.on (bthen (bal (Below.refl _ _) _) hb5))
        have bm := Lib.hid ((Blk.new w4 37 #[.int .i64 m.a, .int .i64 m.b]).on hb5)
        have sz5 := Lib.hid (show w4.heap.size + 1 ≤ w5.heap.size by have := hb5.size; (try simp only [World.size_alloc] at this); omega)
        have Hb5 := Lib.hid (bthen (bal (Hb4.out) _) hb5)
        clear hb5
        go_wp2
        go_ret2
        exact ⟨by rw [Hv2.out]; rfl, Hb5.out⟩
      | some T =>
        obtain ⟨v7, v8, hr2, ho7, ho8⟩ := hr
        subst hr2
        have HC := Lib.hid (Hcl.out T rfl)
        have hT8 := HC.out.len
        obtain ⟨A7, c7, rfl⟩ := own_formI ho7
        obtain ⟨A8, c8, rfl⟩ := own_formI ho8
        have O7 := Lib.hid ho7
        have GO7 := Lib.hid (World.ownsRow.lt ho7)
        clear ho7
        have O8 := Lib.hid ho8
        have GO8 := Lib.hid (World.ownsRow.lt ho8)
        clear ho8
        replace bx := Lib.hid (bx.out.on (hb3))
        replace bw := Lib.hid (bw.out.on (hb3))
        have sz3 := Lib.hid (show w2.heap.size + 0 ≤ w3.heap.size by have := hb3.size; (try simp only [World.size_alloc] at this); omega)
        have Hb3 := Lib.hid (bthen (Hb2.out) hb3)
        clear hb3
        skip
        have Hv2 := Lib.hid (show stpV a b c d = (if smC c d ∈ fsT T then ((T.getD ((fsT T).idxOf (smC c d)) (smC c d, 0)).2, true) else (0, false)) from Hv.out); clear Hv
        have qbx_0 : w3.cell? ⟨w.heap.size, 0, none⟩ = some (.int .i64 a) := bx.out.cell 0
        have qbx_1 : w3.cell? ⟨w.heap.size, 1, none⟩ = some (.int .i64 b) := bx.out.cell 1
        have qbx_l := bx.out.lt
        have qbw_0 : w3.cell? ⟨w.heap.size + 1, 0, none⟩ = some (.int .i64 c) := bw.out.cell 0
        have qbw_1 : w3.cell? ⟨w.heap.size + 1, 1, none⟩ = some (.int .i64 d) := bw.out.cell 1
        have qbw_l := bw.out.lt
        go_wp2_with fail
        clear qbx_0 qbx_1 qbx_l qbw_0 qbw_1 qbw_l
        refine (smallest_any c d _ h2).mono ?_; rintro e w4 ⟨rfl, hb4⟩
        replace bx := Lib.hid (bx.out.on (hb4))
        replace bw := Lib.hid (bw.out.on (hb4))
        replace O7 := Lib.hid (own_below O7.out (hb4))
        replace O8 := Lib.hid (own_below O8.out (hb4))
        have sz4 := Lib.hid (show w3.heap.size + 0 ≤ w4.heap.size by have := hb4.size; (try simp only [World.size_alloc] at this); omega)
        have Hb4 := Lib.hid (bthen (Hb3.out) hb4)
        clear hb4
        generalize smC c d = m at Hv2 ⊢
        go_wp2_with fail
        refine (indexCu_any _ (fsT T) m _ ((Rd.of_own (S := cuS) O7.out (fsT_len T).symm).on (bal (Below.refl _ _) _))).mono ?_; rintro e w5 ⟨rfl, hb5⟩
        replace bx := Lib.hid (bx.out.on (bthen (bal (Below.refl _ _) _) hb5))
        replace bw := Lib.hid (bw.out.on (bthen (bal (Below.refl _ _) _) hb5))
        replace O7 := Lib.hid (own_below O7.out (bthen (bal (Below.refl _ _) _) hb5))
        replace O8 := Lib.hid (own_below O8.out (bthen (bal (Below.refl _ _) _) hb5))
        have bm := Lib.hid ((Blk.new w4 37 #[.int .i64 m.a, .int .i64 m.b]).on hb5)
        have sz5 := Lib.hid (show w4.heap.size + 1 ≤ w5.heap.size by have := hb5.size; (try simp only [World.size_alloc] at this); omega)
        have Hb5 := Lib.hid (bthen (bal (Hb4.out) _) hb5)
        clear hb5
        by_cases hm : m ∈ fsT T
        · obtain ⟨p, hp⟩ : ∃ p, (fsT T).idxOf m = p := ⟨_, rfl⟩
          have hpl : p < T.length := by rw [← hp, ← fsT_len T]; exact List.idxOf_lt_length_iff.2 hm
          have hat : atC (fsT T) m = (p : Int) := by unfold atC; rw [if_pos hm, hp]
          have Hv3 := Lib.hid (show stpV a b c d = (T[p].2, true) by rw [Hv2.out, if_pos hm, hp, List.getD_eq_getElem?_getD, List.getElem?_eq_getElem hpl]; rfl)
          obtain ⟨g, hg1, hg, f8⟩ := snT_cell O8.out rfl p hpl; subst hg1
          generalize T[p].2 = s at f8 Hv3
          have Hat := Lib.hid hat
          have hp0 : (0 : Int) ≤ (p : Int) := by omega
          have hp1 : (p : Int) < (T.length : Int) := by omega
          rw [hat]
          clear hat hm hp
          go_wp2
          go_ret2
          exact ⟨by rw [Hv3.out]; rfl, Hb5.out⟩
        · have hat : atC (fsT T) m = -1 := by unfold atC; rw [if_neg hm]
          have Hv3 := Lib.hid (show stpV a b c d = (0, false) by rw [Hv2.out, if_neg hm])
          rw [hat]
          clear hat hm
          go_wp2
          go_ret2
          exact ⟨by rw [Hv3.out]; rfl, Hb5.out⟩
set_option maxRecDepth 8000 in
set_option maxHeartbeats 8000000 in
theorem stpS_any (a b c d : Int) (w : World) :
    Calls Try.prog 20 #[.agg #[.int .i64 a, .int .i64 b], .agg #[.int .i64 c, .int .i64 d]] w fun r w' => r = .returned (.tuple #[.int .i64 (stpV a b c d).1, .bool (stpV a b c d).2]) ∧ Below w.heap.size w w' := by
  cases h1 : curveB a b
  · have Hv := Lib.hid (show stpV a b c d = (0, false) by unfold stpV; rw [if_neg (both_no1 h1)])
    go_enter Try.func20, Try.ntmps20
    go_wp2_with fail
    refine (cvS_lit h1 _).mono ?_; rintro e w1 ⟨rfl, hb1⟩
    have bx := Lib.hid (((Blk.new w 37 #[.int .i64 a, .int .i64 b]).alloc _).on hb1)
    have bw := Lib.hid ((Blk.new1 w _ 37 #[.int .i64 c, .int .i64 d]).on hb1)
    have sz1 := Lib.hid (show w.heap.size + 2 ≤ w1.heap.size by have := hb1.size; (try simp only [World.size_alloc] at this); omega)
    have Hb1 := Lib.hid (bthen (bal (bal (Below.refl _ _) _) _) hb1)
    clear hb1
    go_wp2
    go_ret2
    exact ⟨by rw [Hv.out]; rfl, Hb1.out⟩
  · cases h2 : curveB c d
    · have Hv := Lib.hid (show stpV a b c d = (0, false) by unfold stpV; rw [if_neg (both_no2 h2)])
      go_enter Try.func20, Try.ntmps20
      go_wp2_with fail
      refine (cvS_lit h1 _).mono ?_; rintro e w1 ⟨rfl, hb1⟩
      have bx := Lib.hid (((Blk.new w 37 #[.int .i64 a, .int .i64 b]).alloc _).on hb1)
      have bw := Lib.hid ((Blk.new1 w _ 37 #[.int .i64 c, .int .i64 d]).on hb1)
      have sz1 := Lib.hid (show w.heap.size + 2 ≤ w1.heap.size by have := hb1.size; (try simp only [World.size_alloc] at this); omega)
      have Hb1 := Lib.hid (bthen (bal (bal (Below.refl _ _) _) _) hb1)
      clear hb1
      have qbx_0 : w1.cell? ⟨w.heap.size, 0, none⟩ = some (.int .i64 a) := bx.out.cell 0
      have qbx_1 : w1.cell? ⟨w.heap.size, 1, none⟩ = some (.int .i64 b) := bx.out.cell 1
      have qbx_l := bx.out.lt
      have qbw_0 : w1.cell? ⟨w.heap.size + 1, 0, none⟩ = some (.int .i64 c) := bw.out.cell 0
      have qbw_1 : w1.cell? ⟨w.heap.size + 1, 1, none⟩ = some (.int .i64 d) := bw.out.cell 1
      have qbw_l := bw.out.lt
      go_wp2_with fail
      clear qbx_0 qbx_1 qbx_l qbw_0 qbw_1 qbw_l
      refine (cvS_lit h2 _).mono ?_; rintro e w2 ⟨rfl, hb2⟩
      replace bx := Lib.hid (bx.out.on (hb2))
      replace bw := Lib.hid (bw.out.on (hb2))
      have sz2 := Lib.hid (show w1.heap.size + 0 ≤ w2.heap.size by have := hb2.size; (try simp only [World.size_alloc] at this); omega)
      have Hb2 := Lib.hid (bthen (Hb1.out) hb2)
      clear hb2
      go_wp2
      go_ret2
      exact ⟨by rw [Hv.out]; rfl, Hb2.out⟩
    · have Hv := Lib.hid (show stpV a b c d = stpO (clsV a b) (smC c d) by unfold stpV; rw [if_pos ⟨h1, h2⟩])
      go_enter Try.func20, Try.ntmps20
      go_wp2_with fail
      refine (cvS_lit h1 _).mono ?_; rintro e w1 ⟨rfl, hb1⟩
      have bx := Lib.hid (((Blk.new w 37 #[.int .i64 a, .int .i64 b]).alloc _).on hb1)
      have bw := Lib.hid ((Blk.new1 w _ 37 #[.int .i64 c, .int .i64 d]).on hb1)
      have sz1 := Lib.hid (show w.heap.size + 2 ≤ w1.heap.size by have := hb1.size; (try simp only [World.size_alloc] at this); omega)
      have Hb1 := Lib.hid (bthen (bal (bal (Below.refl _ _) _) _) hb1)
      clear hb1
      have qbx_0 : w1.cell? ⟨w.heap.size, 0, none⟩ = some (.int .i64 a) := bx.out.cell 0
      have qbx_1 : w1.cell? ⟨w.heap.size, 1, none⟩ = some (.int .i64 b) := bx.out.cell 1
      have qbx_l := bx.out.lt
      have qbw_0 : w1.cell? ⟨w.heap.size + 1, 0, none⟩ = some (.int .i64 c) := bw.out.cell 0
      have qbw_1 : w1.cell? ⟨w.heap.size + 1, 1, none⟩ = some (.int .i64 d) := bw.out.cell 1
      have qbw_l := bw.out.lt
      go_wp2_with fail
      clear qbx_0 qbx_1 qbx_l qbw_0 qbw_1 qbw_l
      refine (cvS_lit h2 _).mono ?_; rintro e w2 ⟨rfl, hb2⟩
      replace bx := Lib.hid (bx.out.on (hb2))
      replace bw := Lib.hid (bw.out.on (hb2))
      have sz2 := Lib.hid (show w1.heap.size + 0 ≤ w2.heap.size by have := hb2.size; (try simp only [World.size_alloc] at this); omega)
      have Hb2 := Lib.hid (bthen (Hb1.out) hb2)
      clear hb2
      have qbx_0 : w2.cell? ⟨w.heap.size, 0, none⟩ = some (.int .i64 a) := bx.out.cell 0
      have qbx_1 : w2.cell? ⟨w.heap.size, 1, none⟩ = some (.int .i64 b) := bx.out.cell 1
      have qbx_l := bx.out.lt
      have qbw_0 : w2.cell? ⟨w.heap.size + 1, 0, none⟩ = some (.int .i64 c) := bw.out.cell 0
      have qbw_1 : w2.cell? ⟨w.heap.size + 1, 1, none⟩ = some (.int .i64 d) := bw.out.cell 1
      have qbw_l := bw.out.lt
      go_wp2_with fail
      clear qbx_0 qbx_1 qbx_l qbw_0 qbw_1 qbw_l
      refine (clsS_any a b _ h1).mono ?_; rintro e w3 ⟨hr, hb3⟩
      have Hcl := Lib.hid (fun T (h : clsV a b = some T) => cls_of h1 h)
      generalize clsV a b = V at hr Hv Hcl
      cases V with
      | none =>
        have hr2 : e = .returned (.tuple #[.slice none 0 0, .slice none 0 0, .bool false]) := hr
        subst hr2
        clear hr
        replace bx := Lib.hid (bx.out.on (hb3))
        replace bw := Lib.hid (bw.out.on (hb3))
        have sz3 := Lib.hid (show w2.heap.size + 0 ≤ w3.heap.size by have := hb3.size; (try simp only [World.size_alloc] at this); omega)
        have Hb3 := Lib.hid (bthen (Hb2.out) hb3)
        clear hb3
        have Hv2 := Lib.hid (show stpV a b c d = (0, false) from Hv.out)
        have qbx_0 : w3.cell? ⟨w.heap.size, 0, none⟩ = some (.int .i64 a) := bx.out.cell 0
        have qbx_1 : w3.cell? ⟨w.heap.size, 1, none⟩ = some (.int .i64 b) := bx.out.cell 1
        have qbx_l := bx.out.lt
        have qbw_0 : w3.cell? ⟨w.heap.size + 1, 0, none⟩ = some (.int .i64 c) := bw.out.cell 0
        have qbw_1 : w3.cell? ⟨w.heap.size + 1, 1, none⟩ = some (.int .i64 d) := bw.out.cell 1
        have qbw_l := bw.out.lt
        go_wp2_with fail
        clear qbx_0 qbx_1 qbx_l qbw_0 qbw_1 qbw_l
        refine (ecSmallest_any c d _ h2).mono ?_; rintro e w4 ⟨rfl, hb4⟩
        replace bx := Lib.hid (bx.out.on (hb4))
        replace bw := Lib.hid (bw.out.on (hb4))
        have sz4 := Lib.hid (show w3.heap.size + 0 ≤ w4.heap.size by have := hb4.size; (try simp only [World.size_alloc] at this); omega)
        have Hb4 := Lib.hid (bthen (Hb3.out) hb4)
        clear hb4
        clear Hv
        generalize smC c d = m
        go_wp2
        go_ret2
        exact ⟨by rw [Hv2.out]; rfl, bal (Hb4.out) _⟩
      | some T =>
        obtain ⟨v7, v8, hr2, ho7, ho8⟩ := hr
        subst hr2
        have HC := Lib.hid (Hcl.out T rfl)
        have hT8 := HC.out.len
        obtain ⟨A7, c7, rfl⟩ := own_formI ho7
        obtain ⟨A8, c8, rfl⟩ := own_formI ho8
        have O7 := Lib.hid ho7
        have GO7 := Lib.hid (World.ownsRow.lt ho7)
        clear ho7
        have O8 := Lib.hid ho8
        have GO8 := Lib.hid (World.ownsRow.lt ho8)
        clear ho8
        replace bx := Lib.hid (bx.out.on (hb3))
        replace bw := Lib.hid (bw.out.on (hb3))
        have sz3 := Lib.hid (show w2.heap.size + 0 ≤ w3.heap.size by have := hb3.size; (try simp only [World.size_alloc] at this); omega)
        have Hb3 := Lib.hid (bthen (Hb2.out) hb3)
        clear hb3
        skip
        have Hv2 := Lib.hid (show stpV a b c d = (if smC c d ∈ fsT T then ((T.getD ((fsT T).idxOf (smC c d)) (smC c d, 0)).2, true) else (0, false)) from Hv.out); clear Hv
        have qbx_0 : w3.cell? ⟨w.heap.size, 0, none⟩ = some (.int .i64 a) := bx.out.cell 0
        have qbx_1 : w3.cell? ⟨w.heap.size, 1, none⟩ = some (.int .i64 b) := bx.out.cell 1
        have qbx_l := bx.out.lt
        have qbw_0 : w3.cell? ⟨w.heap.size + 1, 0, none⟩ = some (.int .i64 c) := bw.out.cell 0
        have qbw_1 : w3.cell? ⟨w.heap.size + 1, 1, none⟩ = some (.int .i64 d) := bw.out.cell 1
        have qbw_l := bw.out.lt
        go_wp2_with fail
        clear qbx_0 qbx_1 qbx_l qbw_0 qbw_1 qbw_l
        refine (ecSmallest_any c d _ h2).mono ?_; rintro e w4 ⟨rfl, hb4⟩
        replace bx := Lib.hid (bx.out.on (hb4))
        replace bw := Lib.hid (bw.out.on (hb4))
        replace O7 := Lib.hid (own_below O7.out (hb4))
        replace O8 := Lib.hid (own_below O8.out (hb4))
        have sz4 := Lib.hid (show w3.heap.size + 0 ≤ w4.heap.size by have := hb4.size; (try simp only [World.size_alloc] at this); omega)
        have Hb4 := Lib.hid (bthen (Hb3.out) hb4)
        clear hb4
        generalize smC c d = m at Hv2 ⊢
        go_wp2_with fail
        refine (icAt_any _ (fsT T) m _ ((Rd.of_own (S := cuS) O7.out (fsT_len T).symm).on (bal (Below.refl _ _) _))).mono ?_; rintro e w5 ⟨rfl, hb5⟩
        replace bx := Lib.hid (bx.out.on (bthen (bal (Below.refl _ _) _) hb5))
        replace bw := Lib.hid (bw.out.on (bthen (bal (Below.refl _ _) _) hb5))
        replace O7 := Lib.hid (own_below O7.out (bthen (bal (Below.refl _ _) _) hb5))
        replace O8 := Lib.hid (own_below O8.out (bthen (bal (Below.refl _ _) _) hb5))
        have bm := Lib.hid ((Blk.new w4 37 #[.int .i64 m.a, .int .i64 m.b]).on hb5)
        have sz5 := Lib.hid (show w4.heap.size + 1 ≤ w5.heap.size by have := hb5.size; (try simp only [World.size_alloc] at this); omega)
        have Hb5 := Lib.hid (bthen (bal (Hb4.out) _) hb5)
        clear hb5
        by_cases hm : m ∈ fsT T
        · obtain ⟨p, hp⟩ : ∃ p, (fsT T).idxOf m = p := ⟨_, rfl⟩
          have hpl : p < T.length := by rw [← hp, ← fsT_len T]; exact List.idxOf_lt_length_iff.2 hm
          have hat : atC (fsT T) m = (p : Int) := by unfold atC; rw [if_pos hm, hp]
          have Hv3 := Lib.hid (show stpV a b c d = (T[p].2, true) by rw [Hv2.out, if_pos hm, hp, List.getD_eq_getElem?_getD, List.getElem?_eq_getElem hpl]; rfl)
          obtain ⟨g, hg1, hg, f8⟩ := snT_cell O8.out rfl p hpl; subst hg1
          generalize hsp : T[p].2 = s at f8 Hv3
          have Hsp := Lib.hid hsp; clear hsp
          have Hat := Lib.hid hat
          have hp0 : (0 : Int) ≤ (p : Int) := by omega
          have hp1 : (p : Int) < (T.length : Int) := by omega
          rw [hat]
          clear hat hm hp
          have hlt0 : decide ((p : Int) < 0) = false := decide_eq_false (by omega)
          have qbm_0 : w5.cell? ⟨w4.heap.size, 0, none⟩ = some (.int .i64 m.a) := bm.out.cell 0
          have qbm_1 : w5.cell? ⟨w4.heap.size, 1, none⟩ = some (.int .i64 m.b) := bm.out.cell 1
          have qbm_l := bm.out.lt
          go_wp2_with fail
          clear qbm_0 qbm_1 qbm_l
          clear f8
          refine (icAt_any _ (fsT T) m _ (Rd.of_own (S := cuS) O7.out (fsT_len T).symm)).mono ?_; rintro e w6 ⟨rfl, hb6⟩
          replace bx := Lib.hid (bx.out.on (hb6))
          replace bw := Lib.hid (bw.out.on (hb6))
          replace O7 := Lib.hid (own_below O7.out (hb6))
          replace O8 := Lib.hid (own_below O8.out (hb6))
          replace bm := Lib.hid (bm.out.on (hb6))
          have sz6 := Lib.hid (show w5.heap.size + 0 ≤ w6.heap.size by have := hb6.size; (try simp only [World.size_alloc] at this); omega)
          have Hb6 := Lib.hid (bthen (Hb5.out) hb6)
          clear hb6
          rw [Hat.out]
          obtain ⟨g8, hg1, hg8, f8⟩ := snT_cell O8.out rfl p hpl; cases hg1
          have f9 : w6.cell? ⟨g, p, none⟩ = some (.int .i64 s) := by rw [f8]; exact congrArg (fun x => some (Value.int .i64 x)) (Hsp.out)
          clear f8
          go_wp2
          go_ret2
          exact ⟨by rw [Hv3.out]; rfl, Hb6.out⟩
        · have hat : atC (fsT T) m = -1 := by unfold atC; rw [if_neg hm]
          have Hv3 := Lib.hid (show stpV a b c d = (0, false) by rw [Hv2.out, if_neg hm])
          rw [hat]
          clear hat hm
          go_wp2
          go_ret2
          exact ⟨by rw [Hv3.out]; rfl, Hb5.out⟩
set_option maxRecDepth 8000 in
set_option maxHeartbeats 8000000 in
theorem ecSame_any (a b c d : Int) (w : World) (h1 : curveB a b = true) (h2 : curveB c d = true) :
    Calls Try.prog 58 #[.agg #[.int .i64 a, .int .i64 b], .agg #[.int .i64 c, .int .i64 d]] w fun r w' => r = .returned (.bool (decide (smC a b = smC c d))) ∧ Below w.heap.size w w' := by
  have hql := eqlCuI
  obtain ⟨q, hq⟩ : ∃ q, decide (smC a b = smC c d) = q := ⟨_, rfl⟩
  rw [hq]
  have Hq := Lib.hid hq; clear hq
  go_enter Try.func58, Try.ntmps58
  go_wp2_with fail
  refine (ecSmallest_any a b _ h1).mono ?_; rintro e w1 ⟨rfl, hb1⟩
  have bx := Lib.hid (((Blk.new w 37 #[.int .i64 a, .int .i64 b]).alloc _).on hb1)
  have bw := Lib.hid ((Blk.new1 w _ 37 #[.int .i64 c, .int .i64 d]).on hb1)
  have sz1 := Lib.hid (show w.heap.size + 2 ≤ w1.heap.size by have := hb1.size; (try simp only [World.size_alloc] at this); omega)
  have Hb1 := Lib.hid (bthen (bal (bal (Below.refl _ _) _) _) hb1)
  clear hb1
  generalize smC a b = m at Hq ⊢
  have qbx_0 : w1.cell? ⟨w.heap.size, 0, none⟩ = some (.int .i64 a) := bx.out.cell 0
  have qbx_1 : w1.cell? ⟨w.heap.size, 1, none⟩ = some (.int .i64 b) := bx.out.cell 1
  have qbx_l := bx.out.lt
  have qbw_0 : w1.cell? ⟨w.heap.size + 1, 0, none⟩ = some (.int .i64 c) := bw.out.cell 0
  have qbw_1 : w1.cell? ⟨w.heap.size + 1, 1, none⟩ = some (.int .i64 d) := bw.out.cell 1
  have qbw_l := bw.out.lt
  go_wp2_with fail
  clear qbx_0 qbx_1 qbx_l qbw_0 qbw_1 qbw_l
  refine (ecSmallest_any c d _ h2).mono ?_; rintro e w2 ⟨rfl, hb2⟩
  replace bx := Lib.hid (bx.out.on (bthen (bal (Below.refl _ _) _) hb2))
  replace bw := Lib.hid (bw.out.on (bthen (bal (Below.refl _ _) _) hb2))
  have bm := Lib.hid ((Blk.new w1 37 #[.int .i64 m.a, .int .i64 m.b]).on hb2)
  have sz2 := Lib.hid (show w1.heap.size + 1 ≤ w2.heap.size by have := hb2.size; (try simp only [World.size_alloc] at this); omega)
  have Hb2 := Lib.hid (bthen (bal (Hb1.out) _) hb2)
  clear hb2
  generalize smC c d = n at Hq ⊢
  have Hcu := Lib.hid (cu_eq (x := m) (y := n))
  have qbm_0 : w2.cell? ⟨w1.heap.size, 0, none⟩ = some (.int .i64 m.a) := bm.out.cell 0
  have qbm_1 : w2.cell? ⟨w1.heap.size, 1, none⟩ = some (.int .i64 m.b) := bm.out.cell 1
  have qbm_l := bm.out.lt
  go_wp2
  clear qbm_0 qbm_1 qbm_l
  go_ret
  exact ⟨by rw [← Hq.out, ← Hcu.out]; rfl, bal (Hb2.out) _⟩
end Go.Proofs.Ytnhgdmhiblpknaa
