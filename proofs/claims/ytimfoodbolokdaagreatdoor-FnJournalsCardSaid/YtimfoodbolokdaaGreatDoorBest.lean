/- One record for each curve, with its bounds: bestRecords of the program, jrShorter of the reference. Conditions: none. -/
import Derived.Test.YtimfoodbolokdaaGreatDoorBndsI
namespace Go.Proofs.YtimfoodbolokdaaGreatDoor
open Go Go.RowKit

def sameC (a b : Int) (x : Rc) : Bool := decide (x.a = a ∧ x.b = b)
/-- One record for each curve of a list, in the order of their first ones; none if bounds contradict each other. -/
def bestL (all : List Rc) : List Rc → List Rc → Option (List Rc)
  | [], acc => some acc
  | r :: rs, acc => if acc.any (sameC r.a r.b) = true then bestL all rs acc else
      if (bndV r.a r.b all).2.2 = true then bestL all rs (acc ++ [⟨r.a, r.b, (bndV r.a r.b all).1, (bndV r.a r.b all).2.1⟩]) else none
def bestO (all : List Rc) : Option (List Rc) := bestL all all []
def bestV (all : List Rc) : List Rc × Bool := match bestO all with | some l => (l, true) | none => ([], false)
theorem bstep_bd {a b : Int} {o : Int × Int × Bool} {r : Rc} (h1 : 0 ≤ o.1) (h2 : o.2.1 ≤ 20) : 0 ≤ (bstep a b o r).1 ∧ (bstep a b o r).2.1 ≤ 20 := by
  unfold bstep
  split
  · exact ⟨by show 0 ≤ max o.1 r.lo; omega, by show min o.2.1 r.hi ≤ 20; omega⟩
  · exact ⟨h1, h2⟩
theorem bfold_bd (a b : Int) (rs : List Rc) : 0 ≤ (bfold a b rs).1 ∧ (bfold a b rs).2.1 ≤ 20 := by
  have key : ∀ (rs : List Rc) (o : Int × Int × Bool), 0 ≤ o.1 → o.2.1 ≤ 20 → 0 ≤ (rs.foldl (bstep a b) o).1 ∧ (rs.foldl (bstep a b) o).2.1 ≤ 20 := by
    intro rs
    induction rs with
    | nil => exact fun o h1 h2 => ⟨h1, h2⟩
    | cons r rs ih => exact fun o h1 h2 => ih _ (bstep_bd h1 h2).1 (bstep_bd h1 h2).2
  exact key rs _ (by decide) (by decide)
theorem bndV_bd {a b : Int} {rs : List Rc} (h : (bndV a b rs).2.2 = true) : 0 ≤ (bndV a b rs).1 ∧ (bndV a b rs).1 ≤ (bndV a b rs).2.1 ∧ (bndV a b rs).2.1 ≤ 20 := by
  have hb := bfold_bd a b rs
  unfold bndV at h ⊢
  split at h
  · rename_i hh
    rw [if_pos hh]
    exact ⟨hb.1, hh.2, hb.2⟩
  · cases h
/-- Each record of acc has the bounds of its curve. -/
def Inv (all acc : List Rc) : Prop := ∀ s ∈ acc, (bndV s.a s.b all).2.2 = true ∧ s.lo = (bndV s.a s.b all).1 ∧ s.hi = (bndV s.a s.b all).2.1
theorem Inv.nil (all : List Rc) : Inv all [] := fun s h => by cases h
theorem Inv.snoc {all acc : List Rc} (h : Inv all acc) {a b : Int} (hb : (bndV a b all).2.2 = true) : Inv all (acc ++ [⟨a, b, (bndV a b all).1, (bndV a b all).2.1⟩]) := by
  intro s hs
  rcases List.mem_append.1 hs with hs | hs
  · exact h s hs
  · have e : s = ⟨a, b, (bndV a b all).1, (bndV a b all).2.1⟩ := by simpa using hs
    subst e
    exact ⟨hb, rfl, rfl⟩
theorem bfold_uni {a b L H : Int} (hL : 0 ≤ L) (hH : H ≤ 20) : ∀ (acc : List Rc), (∀ s ∈ acc, s.a = a → s.b = b → s.lo = L ∧ s.hi = H) → ∀ o : Int × Int × Bool, (o = (0, 20, false) ∨ o = (L, H, true)) →
    acc.foldl (bstep a b) o = if acc.any (sameC a b) = true then (L, H, true) else o := by
  intro acc
  induction acc with
  | nil => intro _ o _; rfl
  | cons r acc ih =>
    intro h o ho
    have ih' := ih (fun s hs => h s (List.mem_cons_of_mem _ hs))
    rw [List.foldl_cons, List.any_cons]
    by_cases hr : r.a = a ∧ r.b = b
    · have h1 := h r (List.mem_cons_self ..) hr.1 hr.2
      have e : bstep a b o r = (L, H, true) := by
        unfold bstep
        rw [if_pos hr, h1.1, h1.2]
        rcases ho with rfl | rfl
        · show (max 0 L, min 20 H, true) = _
          rw [show max (0 : Int) L = L by omega, show min (20 : Int) H = H by omega]
        · show (max L L, min H H, true) = _
          rw [show max L L = L by omega, show min H H = H by omega]
      rw [e, ih' _ (Or.inr rfl), show sameC a b r = true from decide_eq_true hr]
      simp
    · have e : bstep a b o r = o := by unfold bstep; rw [if_neg hr]
      rw [e, ih' _ ho, show sameC a b r = false from decide_eq_false hr]
      simp
/-- What the reference asks of the records so far. -/
theorem bndV_acc {all acc : List Rc} (hi : Inv all acc) {a b : Int} (hb : (bndV a b all).2.2 = true) : (bndV a b acc).2.2 = acc.any (sameC a b) := by
  have h1 := bndV_bd hb
  have h2 := bfold_uni (a := a) (b := b) h1.1 h1.2.2 acc (fun s hs ha hb2 => by
    have := hi s hs
    rw [ha, hb2] at this
    exact this.2) (0, 20, false) (Or.inl rfl)
  unfold bndV
  rw [show bfold a b acc = _ from h2]
  cases acc.any (sameC a b)
  · rfl
  · rw [if_pos rfl, if_pos ⟨rfl, h1.2.1⟩]
theorem any_inv {all acc : List Rc} (hi : Inv all acc) {a b : Int} (h : acc.any (sameC a b) = true) : (bndV a b all).2.2 = true := by
  obtain ⟨s, hs, hsc⟩ := List.any_eq_true.1 h
  have h2 := of_decide_eq_true hsc
  have h3 := (hi s hs).1
  rw [h2.1, h2.2] at h3
  exact h3
theorem bestL_have {all acc es : List Rc} {k : Nat} (hk : k < es.length) (h : acc.any (sameC (rcS.get es k).a (rcS.get es k).b) = true) : bestL all (es.drop k) acc = bestL all (es.drop (k + 1)) acc := by
  have e : es.drop k = rcS.get es k :: es.drop (k + 1) := by
    rw [List.drop_eq_getElem_cons hk]
    congr 1
    unfold Shape.get
    rw [List.getD_eq_getElem?_getD, List.getElem?_eq_getElem hk]; rfl
  rw [e]
  conv => lhs; unfold bestL
  rw [if_pos h]
theorem bestL_new {all acc es : List Rc} {k : Nat} (hk : k < es.length) (h : acc.any (sameC (rcS.get es k).a (rcS.get es k).b) = false) (hb : (bndV (rcS.get es k).a (rcS.get es k).b all).2.2 = true) :
    bestL all (es.drop k) acc = bestL all (es.drop (k + 1)) (acc ++ [⟨(rcS.get es k).a, (rcS.get es k).b, (bndV (rcS.get es k).a (rcS.get es k).b all).1, (bndV (rcS.get es k).a (rcS.get es k).b all).2.1⟩]) := by
  have e : es.drop k = rcS.get es k :: es.drop (k + 1) := by
    rw [List.drop_eq_getElem_cons hk]
    congr 1
    unfold Shape.get
    rw [List.getD_eq_getElem?_getD, List.getElem?_eq_getElem hk]; rfl
  rw [e]
  conv => lhs; unfold bestL
  rw [if_neg (by rw [h]; exact Bool.false_ne_true), if_pos hb]
theorem bestL_stop {all acc es : List Rc} {k : Nat} (hk : k < es.length) (h : acc.any (sameC (rcS.get es k).a (rcS.get es k).b) = false) (hb : (bndV (rcS.get es k).a (rcS.get es k).b all).2.2 = false) : bestL all (es.drop k) acc = none := by
  have e : es.drop k = rcS.get es k :: es.drop (k + 1) := by
    rw [List.drop_eq_getElem_cons hk]
    congr 1
    unfold Shape.get
    rw [List.getD_eq_getElem?_getD, List.getElem?_eq_getElem hk]; rfl
  rw [e]
  conv => lhs; unfold bestL
  rw [if_neg (by rw [h]; exact Bool.false_ne_true), if_neg (by rw [hb]; exact Bool.false_ne_true)]

/-! ### slices.ContainsFunc with the program's closure -/
set_option maxHeartbeats 800000 in
theorem sameRec_any (x : Rc) (a b lo hi : Int) (g : Nat) (w : World) (hg : Blk w g 78 #[.int .i64 a, .int .i64 b, .int .i64 lo, .int .i64 hi]) :
    Calls Tryz.prog 193 #[.agg #[.int .i64 x.a, .int .i64 x.b, .int .i64 x.lo, .int .i64 x.hi], .pointer (some ⟨g, 0, none⟩)] w fun r w' => r = .returned (.bool (sameC a b x)) ∧ Below w.heap.size w w' := by
  have Hb := Lib.hid (bal (Below.refl w.heap.size w) (Obj.cells #[.int .i64 x.a, .int .i64 x.b, .int .i64 x.lo, .int .i64 x.hi] 78))
  have g0 : ∀ o, (w.alloc o).cell? ⟨g, 0, none⟩ = some (.int .i64 a) := fun o => (hg.alloc o).cell 0
  have g1 : ∀ o, (w.alloc o).cell? ⟨g, 1, none⟩ = some (.int .i64 b) := fun o => (hg.alloc o).cell 1
  have k0 := hg.cell 0
  have k1 := hg.cell 1
  have gl := hg.lt
  simp at k0 k1
  have hcase : ((x.a = a ∧ x.b = b) ∧ sameC a b x = true) ∨ (¬ x.a = a ∧ sameC a b x = false) ∨ ((x.a = a ∧ ¬ x.b = b) ∧ sameC a b x = false) := by
    unfold sameC
    by_cases e1 : x.a = a
    · by_cases e2 : x.b = b
      · exact Or.inl ⟨⟨e1, e2⟩, decide_eq_true ⟨e1, e2⟩⟩
      · exact Or.inr (Or.inr ⟨⟨e1, e2⟩, decide_eq_false (fun hh => e2 hh.2)⟩)
    · exact Or.inr (Or.inl ⟨e1, decide_eq_false (fun hh => e1 hh.1)⟩)
  rcases hcase with ⟨⟨e1, e2⟩, hs⟩ | ⟨e1, hs⟩ | ⟨⟨e1, e2⟩, hs⟩ <;> (
    have Hs := Lib.hid hs; clear hs
    go_enter Tryz.func193, Tryz.ntmps193
    go_wp2
    go_ret
    first
      | exact ⟨by rw [Hs.out] <;> rfl, Hb.out⟩
      | (refine ⟨by rw [Hs.out] <;> rfl, ?_⟩; have hq := Hb.out; rw [e1, e2] at hq; exact hq)
      | (refine ⟨by rw [Hs.out] <;> rfl, ?_⟩; have hq := Hb.out; rw [e1] at hq; exact hq))
theorem sameRec_enter : ∀ args w, (callFunc 193 args).run Tryz.prog w = .ok (.enter 193 args) w := enters_of Tryz.func193 (by kernel_rfl) rfl
set_option maxRecDepth 8000 in
set_option maxHeartbeats 1600000 in
theorem indexFunc_rc (es : List Rc) (v : Value) (a b lo hi : Int) (g : Nat) (w : World) (h : Rd rcS w w.heap.size v es) (hg : Blk w g 78 #[.int .i64 a, .int .i64 b, .int .i64 lo, .int .i64 hi]) :
    Calls Tryz.prog 229 #[v, .func (Fn.func 193) #[] #[.pointer (some ⟨g, 0, none⟩)]] w fun r w' =>
      (∃ q : Int, r = .returned (.int .i64 q) ∧ (es.any (sameC a b) = true ∧ 0 ≤ q ∨ es.any (sameC a b) = false ∧ q = -1)) ∧ Below w.heap.size w w' := by
  obtain ⟨A, c, rfl, hcc, hm, hA⟩ := h
  unfold maxLen at hm
  have eg := sameRec_enter
  have HK := Lib.hid (fun W x (hW : Below w.heap.size w W) => sameRec_any x a b lo hi g W (hg.on hW)); clear hg
  rcases Nat.eq_zero_or_pos es.length with h0 | h0
  · obtain rfl : es = [] := List.eq_nil_of_length_eq_zero h0
    clear hA
    go_enter Tryz.func229, Tryz.ntmps229
    go_wp2
    refine wp_loop_rounds 1 ?_
    rw [rounds_succ]
    go_wp2
    go_ret
    exact ⟨⟨_, rfl, .inr ⟨rfl, rfl⟩⟩, Below.refl _ _⟩
  · obtain ⟨gs, off, rfl, hgs, hcell⟩ := hA h0
    clear hA
    have hcell := rc_cells hcell
    go_enter Tryz.func229, Tryz.ntmps229
    go_wp2
    go_loopw [8] (fun i wr => ∃ k : Nat, k ≤ es.length ∧ i = .int .i64 k ∧ (es.take k).any (sameC a b) = false ∧ Below w.heap.size w wr) (fun i _ => es.length - (intOf i).toNat)
    case atStart => exact ⟨0, Nat.zero_le _, rfl, rfl, Below.refl _ _⟩
    case round =>
      obtain ⟨k, hk, rfl, hok, hb⟩ := hrel
      have Hok := Lib.hid hok; clear hok
      by_cases hlt : k < es.length
      · obtain ⟨f0, f1, f2, f3⟩ := hcell k hlt
        rw [← hb.cell (p := ⟨_, _, _⟩) hgs] at f0 f1 f2 f3
        have Htk := Lib.hid (rc_take hlt)
        have Hin := Lib.hid (show rcS.get es k ∈ es by
          unfold Shape.get; rw [List.getD_eq_getElem?_getD, List.getElem?_eq_getElem hlt]; exact List.getElem_mem hlt)
        generalize rcS.get es k = x at f0 f1 f2 f3 Htk Hin
        have hi0 : (0 : Int) ≤ (k : Int) := by omega
        have hi1 : (k : Int) < (es.length : Int) := by omega
        clear hcell
        cases hd : sameC a b x
        all_goals
          have Hd := Lib.hid hd
          go_wp2_with fail
          refine (HK.out _ x hb).mono ?_
          rintro e w1 ⟨rfl, hb1⟩
          rw [hd]
          clear hd
          go_wp2
        · go_roundw
          case rel => exact ⟨k + 1, by omega, by go_num, by rw [Htk.out, List.any_append, Hok.out]; simp [Hd.out], bthen hb hb1⟩
          case measure => simp [intOf]; omega
        · go_ret
          exact ⟨⟨_, rfl, .inl ⟨List.any_eq_true.2 ⟨x, Hin.out, Hd.out⟩, by omega⟩⟩, bthen hb hb1⟩
      · clear hcell
        obtain rfl : k = es.length := by omega
        go_wp2
        go_ret
        exact ⟨⟨_, rfl, .inr ⟨by have := Hok.out; rwa [List.take_length] at this, rfl⟩⟩, hb⟩
set_option maxHeartbeats 800000 in
theorem containsFunc_rc (es : List Rc) (v : Value) (a b lo hi : Int) (g : Nat) (w : World) (h : Rd rcS w w.heap.size v es) (hg : Blk w g 78 #[.int .i64 a, .int .i64 b, .int .i64 lo, .int .i64 hi]) :
    Calls Tryz.prog 192 #[v, .func (Fn.func 193) #[] #[.pointer (some ⟨g, 0, none⟩)]] w fun r w' => r = .returned (.bool (es.any (sameC a b))) ∧ Below w.heap.size w w' := by
  have Hx := Lib.hid (indexFunc_rc es v a b lo hi g w h hg)
  clear h hg
  go_enter Tryz.func192, Tryz.ntmps192
  go_wp2_with fail
  refine Hx.out.mono ?_; rintro e w1 ⟨⟨q, rfl, hq⟩, hb⟩
  rcases hq with ⟨ha, hq⟩ | ⟨ha, rfl⟩
  · have Ha := Lib.hid ha; clear ha
    go_wp2
    go_ret
    exact ⟨by rw [Ha.out] <;> rfl, hb⟩
  · have Ha := Lib.hid ha; clear ha
    go_wp2
    go_ret
    exact ⟨by rw [Ha.out] <;> rfl, hb⟩
end Go.Proofs.YtimfoodbolokdaaGreatDoor
