/- The text of a catalogue, in both; CatalogueText of both. Conditions: the table of powers of ten. -/
import Derived.Test.YticbmpjdcanjkaaDoorGoodEntry
import Derived.Test.YticbmpjdcanjkaaDoorSeal
namespace Go.Proofs.YticbmpjdcanjkaaDoor
open Go Go.RowKit

def entT (e : En) : ByteArray := nText [e.a, e.b] ++ ⟨#[32]⟩ ++ itS e.lo ++ ⟨#[46, 46]⟩ ++ itS e.hi ++ ⟨#[32]⟩ ++ itS e.to ++ ⟨#[10]⟩
def catT (es : List En) : Nat → ByteArray
  | 0 => ⟨#[]⟩
  | k + 1 => catT es k ++ entT (enS.get es k)
structure EnBd (e : En) : Prop where
  a : -1000 ≤ e.a ∧ e.a ≤ 1000
  b : -10000 ≤ e.b ∧ e.b ≤ 10000
  lo : 0 ≤ e.lo ∧ e.lo ≤ 20
  hi : 0 ≤ e.hi ∧ e.hi ≤ 20
  tt : 0 ≤ e.to ∧ e.to ≤ 16
theorem enBd {e : En} (h : entB e.a e.b e.lo e.hi e.to = true) : EnBd e := by
  unfold entB at h
  simp only [Bool.and_eq_true, decide_eq_true_eq] at h
  have h2 := curveB_bd h.1
  exact ⟨h2.1, h2.2, by omega, by omega, by omega⟩
theorem okAt_ent9 {es : List En} {k : Nat} (h : okAt es k = true) : entB (enS.get es k).a (enS.get es k).b (enS.get es k).lo (enS.get es k).hi (enS.get es k).to = true := by
  unfold okAt at h
  simp only [Bool.and_eq_true] at h
  exact h.1
theorem str_add (a b : ByteArray) (ha : a.size ≤ 8388608) (hb : b.size ≤ 8388608) : ∀ W, (Op.stringOp .add a b).run Tryd.prog W = .ok (.string (a ++ b)) W := fun W =>
  run_string_add W a b (by omega) (by omega)
theorem nText2_size {a b : Int} (ha : -1000 ≤ a ∧ a ≤ 1000) (hb : -10000 ≤ b ∧ b ≤ 10000) : (nText [a, b]).size ≤ 40000 := by
  have := nText_size [a, b] 10000 (by intro e he; simp at he; omega)
  simp at this; omega
theorem entT_size {e : En} (h : EnBd e) : (entT e).size ≤ 50000 := by
  have h1 := nText2_size h.a h.b
  have h2 := itS_size e.lo; have h3 := itS_size e.hi; have h4 := itS_size e.to
  have := h.lo; have := h.hi; have := h.tt
  unfold entT
  simp only [ByteArray.size_append]
  rw [show (⟨#[32]⟩ : ByteArray).size = 1 from rfl, show (⟨#[46, 46]⟩ : ByteArray).size = 2 from rfl, show (⟨#[10]⟩ : ByteArray).size = 1 from rfl]
  omega
theorem catT_size (es : List En) (hv : ∀ j, j < es.length → okAt es j = true) : ∀ k, k ≤ es.length → (catT es k).size ≤ k * 50000
  | 0, _ => by exact Nat.zero_le _
  | k + 1, hk => by
    unfold catT
    rw [ByteArray.size_append]
    have h1 := catT_size es hv k (by omega)
    have h2 := entT_size (enBd (okAt_ent9 (hv k (by omega))))
    omega
theorem catB_all9 {es : List En} (h : catB es = true) : es.length ≤ 12 ∧ ∀ j, j < es.length → okAt es j = true := by
  unfold catB at h
  simp only [Bool.and_eq_true, decide_eq_true_eq, List.all_eq_true, List.mem_range] at h
  exact h
set_option maxRecDepth 20000 in
set_option maxHeartbeats 8000000 in
theorem catalogueText_any (v : Value) (es : List En) (w : World) (h : Rd enS w w.heap.size v es) (hl : es.length ≤ 12) (hv : ∀ j, j < es.length → okAt es j = true) (htab : Tab w) :
    Calls Tryd.prog 20 #[v] w fun e w' => e = .returned (.string (catT es es.length)) ∧ Below w.heap.size w w' := by
  obtain ⟨A, c, rfl, hcc, hm, hA⟩ := h
  unfold maxLen at hm
  rcases Nat.eq_zero_or_pos es.length with h0 | h0
  · obtain rfl : es = [] := List.eq_nil_of_length_eq_zero h0
    clear hA hv
    go_enter Tryd.func20, Tryd.ntmps20
    go_wp2
    refine wp_loop_rounds 1 ?_
    rw [rounds_succ]
    go_wp2
    go_ret
    exact ⟨rfl, Below.refl _ _⟩
  · obtain ⟨g, off, rfl, hg, hcell⟩ := hA h0
    clear hA
    have hcell := en_cells hcell
    have Hv := Lib.hid hv; clear hv
    have Ht := Lib.hid htab; clear htab
    go_enter Tryd.func20, Tryd.ntmps20
    go_wp2
    go_loopw [8, 3] (fun i o wr => ∃ k : Nat, k ≤ es.length ∧ i = .int .i64 k ∧ o = .string (catT es k) ∧ Below w.heap.size w wr) (fun i _ _ => es.length - (intOf i).toNat)
    case atStart => exact ⟨0, Nat.zero_le _, rfl, rfl, Below.refl _ _⟩
    case round =>
      obtain ⟨k, hk, rfl, rfl, hb⟩ := hrel
      have s0 := catT_size es Hv.out k hk
      replace s0 : (catT es k).size ≤ 1000000 := by omega
      by_cases hlt : k < es.length
      · obtain ⟨f0, f1, f2, f3, f4⟩ := hcell k hlt
        rw [← hb.cell (p := ⟨_, _, _⟩) hg] at f0 f1 f2 f3 f4
        have hbd := enBd (okAt_ent9 (Hv.out k hlt))
        have hnx : catT es (k + 1) = catT es k ++ entT (enS.get es k) := rfl
        unfold entT at hnx
        obtain ⟨ea, hea⟩ : ∃ e, enS.get es k = e := ⟨_, rfl⟩
        rw [hea] at f0 f1 f2 f3 f4 hbd hnx
        clear hea
        have hgr : g < wr.heap.size := Nat.lt_of_lt_of_le hg hb.size
        have hgr' : g < wr.heap.size + 1 := Nat.lt_succ_of_lt hgr
        have s2 := nText2_size hbd.a hbd.b
        have s1 : (itS ea.lo).size ≤ 10000 := by have := itS_size ea.lo; have := hbd.lo; omega
        have s3 : (itS ea.hi).size ≤ 10000 := by have := itS_size ea.hi; have := hbd.hi; omega
        have s4 : (itS ea.to).size ≤ 10000 := by have := itS_size ea.to; have := hbd.tt; omega
        have htr := Ht.out.on hb
        have Hb := Lib.hid hb; clear hb
        have HB1 := Lib.hid (Blk.new wr 33 #[.int .i64 ea.a, .int .i64 ea.b, .int .i64 ea.lo, .int .i64 ea.hi, .int .i64 ea.to])
        have Ht1 := Lib.hid (htr.on (bal (Below.refl _ _) (Obj.cells #[.int .i64 ea.a, .int .i64 ea.b, .int .i64 ea.lo, .int .i64 ea.hi, .int .i64 ea.to] 33))); clear htr
        have HS : Hid (∀ w', Below (wr.alloc (Obj.cells #[.int .i64 ea.a, .int .i64 ea.b, .int .i64 ea.lo, .int .i64 ea.hi, .int .i64 ea.to] 33)).heap.size (wr.alloc (Obj.cells #[.int .i64 ea.a, .int .i64 ea.b, .int .i64 ea.lo, .int .i64 ea.hi, .int .i64 ea.to] 33)) w' → (w'.cell? ⟨wr.heap.size, 0, none⟩ = some (.int .i64 ea.a) ∧ w'.cell? ⟨wr.heap.size, 1, none⟩ = some (.int .i64 ea.b) ∧ w'.cell? ⟨wr.heap.size, 2, none⟩ = some (.int .i64 ea.lo) ∧ w'.cell? ⟨wr.heap.size, 3, none⟩ = some (.int .i64 ea.hi) ∧ w'.cell? ⟨wr.heap.size, 4, none⟩ = some (.int .i64 ea.to) ∧ Below (wr.alloc (Obj.cells #[.int .i64 ea.a, .int .i64 ea.b, .int .i64 ea.lo, .int .i64 ea.hi, .int .i64 ea.to] 33)).heap.size (wr.alloc (Obj.cells #[.int .i64 ea.a, .int .i64 ea.b, .int .i64 ea.lo, .int .i64 ea.hi, .int .i64 ea.to] 33)) w')) := Lib.hid (fun w' hw => ⟨(hw.cell (p := ⟨wr.heap.size, 0, none⟩) HB1.out.lt).trans (HB1.out.cell 0), (hw.cell (p := ⟨wr.heap.size, 1, none⟩) HB1.out.lt).trans (HB1.out.cell 1), (hw.cell (p := ⟨wr.heap.size, 2, none⟩) HB1.out.lt).trans (HB1.out.cell 2), (hw.cell (p := ⟨wr.heap.size, 3, none⟩) HB1.out.lt).trans (HB1.out.cell 3), (hw.cell (p := ⟨wr.heap.size, 4, none⟩) HB1.out.lt).trans (HB1.out.cell 4), hw⟩)
        have Hnt := Lib.hid (fun (W : World) (hw : Below (World.alloc (wr.alloc (Obj.cells #[.int .i64 ea.a, .int .i64 ea.b, .int .i64 ea.lo, .int .i64 ea.hi, .int .i64 ea.to] 33)) (Obj.cells #[.int .i64 ea.a, .int .i64 ea.b] 3)).heap.size (World.alloc (wr.alloc (Obj.cells #[.int .i64 ea.a, .int .i64 ea.b, .int .i64 ea.lo, .int .i64 ea.hi, .int .i64 ea.to] 33)) (Obj.cells #[.int .i64 ea.a, .int .i64 ea.b] 3)) W) =>
          numbersText_any (.slice (some ⟨wr.heap.size + 1, 0, none⟩) 2 2) [ea.a, ea.b] W ((show Rd inS (World.alloc (wr.alloc (Obj.cells #[.int .i64 ea.a, .int .i64 ea.b, .int .i64 ea.lo, .int .i64 ea.hi, .int .i64 ea.to] 33)) (Obj.cells #[.int .i64 ea.a, .int .i64 ea.b] 3)) (World.alloc (wr.alloc (Obj.cells #[.int .i64 ea.a, .int .i64 ea.b, .int .i64 ea.lo, .int .i64 ea.hi, .int .i64 ea.to] 33)) (Obj.cells #[.int .i64 ea.a, .int .i64 ea.b] 3)).heap.size (.slice (some ⟨wr.heap.size + 1, 0, none⟩) 2 2) [ea.a, ea.b] by rw [← World.size_alloc wr (Obj.cells #[.int .i64 ea.a, .int .i64 ea.b, .int .i64 ea.lo, .int .i64 ea.hi, .int .i64 ea.to] 33)]; exact rd_ints (wr.alloc (Obj.cells #[.int .i64 ea.a, .int .i64 ea.b, .int .i64 ea.lo, .int .i64 ea.hi, .int .i64 ea.to] 33)) 3 [ea.a, ea.b] (by simp)).on hw) (by simp) (by
            intro j hj
            rw [inS_get hj]
            have h1 := hbd.a; have h2 := hbd.b
            have h6 : [ea.a, ea.b][j] ∈ [ea.a, ea.b] := List.getElem_mem hj
            generalize [ea.a, ea.b][j] = y at h6
            simp at h6
            omega) ((Ht1.out.on (bal (Below.refl _ _) _)).on hw))
        have H1 := Lib.hid (fun W (hw : Below (wr.alloc (Obj.cells #[.int .i64 ea.a, .int .i64 ea.b, .int .i64 ea.lo, .int .i64 ea.hi, .int .i64 ea.to] 33)).heap.size (wr.alloc (Obj.cells #[.int .i64 ea.a, .int .i64 ea.b, .int .i64 ea.lo, .int .i64 ea.hi, .int .i64 ea.to] 33)) W) => itoa_any ea.lo W (by have := hbd.lo; omega) (Ht1.out.on hw))
        have H3 := Lib.hid (fun W (hw : Below (wr.alloc (Obj.cells #[.int .i64 ea.a, .int .i64 ea.b, .int .i64 ea.lo, .int .i64 ea.hi, .int .i64 ea.to] 33)).heap.size (wr.alloc (Obj.cells #[.int .i64 ea.a, .int .i64 ea.b, .int .i64 ea.lo, .int .i64 ea.hi, .int .i64 ea.to] 33)) W) => itoa_any ea.hi W (by have := hbd.hi; omega) (Ht1.out.on hw))
        have H4 := Lib.hid (fun W (hw : Below (wr.alloc (Obj.cells #[.int .i64 ea.a, .int .i64 ea.b, .int .i64 ea.lo, .int .i64 ea.hi, .int .i64 ea.to] 33)).heap.size (wr.alloc (Obj.cells #[.int .i64 ea.a, .int .i64 ea.b, .int .i64 ea.lo, .int .i64 ea.hi, .int .i64 ea.to] 33)) W) => itoa_any ea.to W (by have := hbd.tt; omega) (Ht1.out.on hw))
        have HbW := Lib.hid (show Below w.heap.size w (wr.alloc (Obj.cells #[.int .i64 ea.a, .int .i64 ea.b, .int .i64 ea.lo, .int .i64 ea.hi, .int .i64 ea.to] 33)) from bal Hb.out _)
        have hb0 := Below.refl (wr.alloc (Obj.cells #[.int .i64 ea.a, .int .i64 ea.b, .int .i64 ea.lo, .int .i64 ea.hi, .int .i64 ea.to] 33)).heap.size (wr.alloc (Obj.cells #[.int .i64 ea.a, .int .i64 ea.b, .int .i64 ea.lo, .int .i64 ea.hi, .int .i64 ea.to] 33))
        clear hbd
        generalize catT es k = P0 at hnx s0
        generalize nText [ea.a, ea.b] = P2 at hnx s2 Hnt
        generalize itS ea.lo = P1 at hnx s1 H1
        generalize itS ea.hi = P3 at hnx s3 H3
        generalize itS ea.to = P4 at hnx s4 H4
        clear hcell
        obtain ⟨Q1, eQ1⟩ : ∃ Q, P2 ++ ⟨#[32]⟩ = Q := ⟨_, rfl⟩
        have aQ1 := str_add P2 ⟨#[32]⟩ (Nat.le_trans s2 (by decide)) (Nat.le_trans (show (⟨#[32]⟩ : ByteArray).size ≤ 10 by decide) (by decide))
        have zQ1 : Q1.size ≤ 100000 := by rw [← eQ1, ByteArray.size_append]; have h1 := s2; have h2 := (show (⟨#[32]⟩ : ByteArray).size ≤ 10 by decide); omega
        rw [eQ1] at aQ1 hnx; clear eQ1
        obtain ⟨Q2, eQ2⟩ : ∃ Q, Q1 ++ P1 = Q := ⟨_, rfl⟩
        have aQ2 := str_add Q1 P1 (Nat.le_trans zQ1 (by decide)) (Nat.le_trans s1 (by decide))
        have zQ2 : Q2.size ≤ 150000 := by rw [← eQ2, ByteArray.size_append]; have h1 := zQ1; have h2 := s1; omega
        rw [eQ2] at aQ2 hnx; clear eQ2
        obtain ⟨Q3, eQ3⟩ : ∃ Q, Q2 ++ ⟨#[46, 46]⟩ = Q := ⟨_, rfl⟩
        have aQ3 := str_add Q2 ⟨#[46, 46]⟩ (Nat.le_trans zQ2 (by decide)) (Nat.le_trans (show (⟨#[46, 46]⟩ : ByteArray).size ≤ 10 by decide) (by decide))
        have zQ3 : Q3.size ≤ 200000 := by rw [← eQ3, ByteArray.size_append]; have h1 := zQ2; have h2 := (show (⟨#[46, 46]⟩ : ByteArray).size ≤ 10 by decide); omega
        rw [eQ3] at aQ3 hnx; clear eQ3
        obtain ⟨Q4, eQ4⟩ : ∃ Q, Q3 ++ P3 = Q := ⟨_, rfl⟩
        have aQ4 := str_add Q3 P3 (Nat.le_trans zQ3 (by decide)) (Nat.le_trans s3 (by decide))
        have zQ4 : Q4.size ≤ 250000 := by rw [← eQ4, ByteArray.size_append]; have h1 := zQ3; have h2 := s3; omega
        rw [eQ4] at aQ4 hnx; clear eQ4
        obtain ⟨Q5, eQ5⟩ : ∃ Q, Q4 ++ ⟨#[32]⟩ = Q := ⟨_, rfl⟩
        have aQ5 := str_add Q4 ⟨#[32]⟩ (Nat.le_trans zQ4 (by decide)) (Nat.le_trans (show (⟨#[32]⟩ : ByteArray).size ≤ 10 by decide) (by decide))
        have zQ5 : Q5.size ≤ 300000 := by rw [← eQ5, ByteArray.size_append]; have h1 := zQ4; have h2 := (show (⟨#[32]⟩ : ByteArray).size ≤ 10 by decide); omega
        rw [eQ5] at aQ5 hnx; clear eQ5
        obtain ⟨Q6, eQ6⟩ : ∃ Q, Q5 ++ P4 = Q := ⟨_, rfl⟩
        have aQ6 := str_add Q5 P4 (Nat.le_trans zQ5 (by decide)) (Nat.le_trans s4 (by decide))
        have zQ6 : Q6.size ≤ 350000 := by rw [← eQ6, ByteArray.size_append]; have h1 := zQ5; have h2 := s4; omega
        rw [eQ6] at aQ6 hnx; clear eQ6
        obtain ⟨Q7, eQ7⟩ : ∃ Q, Q6 ++ ⟨#[10]⟩ = Q := ⟨_, rfl⟩
        have aQ7 := str_add Q6 ⟨#[10]⟩ (Nat.le_trans zQ6 (by decide)) (Nat.le_trans (show (⟨#[10]⟩ : ByteArray).size ≤ 10 by decide) (by decide))
        have zQ7 : Q7.size ≤ 400000 := by rw [← eQ7, ByteArray.size_append]; have h1 := zQ6; have h2 := (show (⟨#[10]⟩ : ByteArray).size ≤ 10 by decide); omega
        rw [eQ7] at aQ7 hnx; clear eQ7
        have aQ8 := str_add P0 Q7 (Nat.le_trans s0 (by decide)) (Nat.le_trans zQ7 (by decide))
        rw [← hnx] at aQ8
        clear hnx s0 s1 s2 s3 s4 zQ1 zQ2 zQ3 zQ4 zQ5 zQ6 zQ7
        obtain ⟨Q8, hQ8⟩ : ∃ Q, catT es (k + 1) = Q := ⟨_, rfl⟩
        rw [hQ8] at aQ8
        have HQ8 := Lib.hid hQ8; clear hQ8
        go_wp2
        go_region_held3 (fun w' => w'.cell? ⟨wr.heap.size, 0, none⟩ = some (.int .i64 ea.a) ∧ w'.cell? ⟨wr.heap.size, 1, none⟩ = some (.int .i64 ea.b) ∧ w'.cell? ⟨wr.heap.size, 2, none⟩ = some (.int .i64 ea.lo) ∧ w'.cell? ⟨wr.heap.size, 3, none⟩ = some (.int .i64 ea.hi) ∧ w'.cell? ⟨wr.heap.size, 4, none⟩ = some (.int .i64 ea.to) ∧ Below (wr.alloc (Obj.cells #[.int .i64 ea.a, .int .i64 ea.b, .int .i64 ea.lo, .int .i64 ea.hi, .int .i64 ea.to] 33)).heap.size (wr.alloc (Obj.cells #[.int .i64 ea.a, .int .i64 ea.b, .int .i64 ea.lo, .int .i64 ea.hi, .int .i64 ea.to] 33)) w') (((go_split_ands; refine HS.out _ ?_; repeat (first | (with_reducible assumption) | (with_reducible exact Below.refl _ _) | (with_reducible refine Below.drew ?_) | (with_reducible refine bal ?_ _) | (with_reducible refine bthen ?_ (by with_reducible assumption)))))) ((first | (go_at_call 31; (with_reducible refine (Hnt.out _ (by first | (with_reducible exact Below.refl _ _) | (with_reducible exact Below.drew (Below.refl _ _)))).mono ?_); rintro r w2 ⟨rfl, hb2⟩) | (go_at_call 38; (with_reducible refine (H1.out _ (by go_split_ands; repeat (first | (with_reducible assumption) | (with_reducible exact Below.refl _ _) | (with_reducible refine Below.drew ?_) | (with_reducible refine bal ?_ _) | (with_reducible refine bthen ?_ (by with_reducible assumption))))).mono ?_); rintro r w3 ⟨rfl, hb3⟩) | (go_at_call 38; (with_reducible refine (H3.out _ (by go_split_ands; repeat (first | (with_reducible assumption) | (with_reducible exact Below.refl _ _) | (with_reducible refine Below.drew ?_) | (with_reducible refine bal ?_ _) | (with_reducible refine bthen ?_ (by with_reducible assumption))))).mono ?_); rintro r w4 ⟨rfl, hb4⟩) | (go_at_call 38; (with_reducible refine (H4.out _ (by go_split_ands; repeat (first | (with_reducible assumption) | (with_reducible exact Below.refl _ _) | (with_reducible refine Below.drew ?_) | (with_reducible refine bal ?_ _) | (with_reducible refine bthen ?_ (by with_reducible assumption))))).mono ?_); rintro r w5 ⟨rfl, hb5⟩)))
        go_wp2
        go_roundw
        case rel => exact ⟨k + 1, by omega, by go_num, by rw [HQ8.out], bthen HbW.out (by go_split_ands; repeat (first | (with_reducible assumption) | (with_reducible exact Below.refl _ _) | (with_reducible refine Below.drew ?_) | (with_reducible refine bal ?_ _) | (with_reducible refine bthen ?_ (by with_reducible assumption))))⟩
        case measure => simp [intOf]; omega
      · obtain rfl : k = es.length := by omega
        clear hcell
        go_wp2
        go_ret
        exact ⟨rfl, hb⟩
set_option maxRecDepth 20000 in
set_option maxHeartbeats 8000000 in
theorem caText_any (v : Value) (es : List En) (w : World) (h : Rd enS w w.heap.size v es) (hl : es.length ≤ 12) (hv : ∀ j, j < es.length → okAt es j = true) :
    Calls Tryd.prog 12 #[v] w fun e w' => e = .returned (.string (catT es es.length)) ∧ Below w.heap.size w w' := by
  obtain ⟨A, c, rfl, hcc, hm, hA⟩ := h
  unfold maxLen at hm
  rcases Nat.eq_zero_or_pos es.length with h0 | h0
  · obtain rfl : es = [] := List.eq_nil_of_length_eq_zero h0
    clear hA hv
    go_enter Tryd.func12, Tryd.ntmps12
    go_wp2
    refine wp_loop_rounds 1 ?_
    rw [rounds_succ]
    go_wp2
    go_ret
    exact ⟨rfl, Below.refl _ _⟩
  · obtain ⟨g, off, rfl, hg, hcell⟩ := hA h0
    clear hA
    have hcell := en_cells hcell
    have Hv := Lib.hid hv; clear hv
    skip
    go_enter Tryd.func12, Tryd.ntmps12
    go_wp2
    go_loopw [8, 3] (fun i o wr => ∃ k : Nat, k ≤ es.length ∧ i = .int .i64 k ∧ o = .string (catT es k) ∧ Below w.heap.size w wr) (fun i _ _ => es.length - (intOf i).toNat)
    case atStart => exact ⟨0, Nat.zero_le _, rfl, rfl, Below.refl _ _⟩
    case round =>
      obtain ⟨k, hk, rfl, rfl, hb⟩ := hrel
      have s0 := catT_size es Hv.out k hk
      replace s0 : (catT es k).size ≤ 1000000 := by omega
      by_cases hlt : k < es.length
      · obtain ⟨f0, f1, f2, f3, f4⟩ := hcell k hlt
        rw [← hb.cell (p := ⟨_, _, _⟩) hg] at f0 f1 f2 f3 f4
        have hbd := enBd (okAt_ent9 (Hv.out k hlt))
        have hnx : catT es (k + 1) = catT es k ++ entT (enS.get es k) := rfl
        unfold entT at hnx
        obtain ⟨ea, hea⟩ : ∃ e, enS.get es k = e := ⟨_, rfl⟩
        rw [hea] at f0 f1 f2 f3 f4 hbd hnx
        clear hea
        have hgr : g < wr.heap.size := Nat.lt_of_lt_of_le hg hb.size
        have hgr' : g < wr.heap.size + 1 := Nat.lt_succ_of_lt hgr
        have s2 := nText2_size hbd.a hbd.b
        have s1 : (itS ea.lo).size ≤ 10000 := by have := itS_size ea.lo; have := hbd.lo; omega
        have s3 : (itS ea.hi).size ≤ 10000 := by have := itS_size ea.hi; have := hbd.hi; omega
        have s4 : (itS ea.to).size ≤ 10000 := by have := itS_size ea.to; have := hbd.tt; omega
        have H2 := Lib.hid (fun W => ecText_any ea.a ea.b W (by have := hbd.a; omega) (by have := hbd.b; omega))
        have H1 := Lib.hid (fun W => l1Num_int ea.lo W (by have := hbd.lo; omega))
        have H3 := Lib.hid (fun W => l1Num_int ea.hi W (by have := hbd.hi; omega))
        have H4 := Lib.hid (fun W => l1Num_int ea.to W (by have := hbd.tt; omega))
        have Hb := Lib.hid (show Below w.heap.size w (wr.alloc (Obj.cells #[.int .i64 ea.a, .int .i64 ea.b, .int .i64 ea.lo, .int .i64 ea.hi, .int .i64 ea.to] 33)) from bal hb _)
        clear hbd
        generalize catT es k = P0 at hnx s0
        generalize nText [ea.a, ea.b] = P2 at hnx s2 H2
        generalize itS ea.lo = P1 at hnx s1 H1
        generalize itS ea.hi = P3 at hnx s3 H3
        generalize itS ea.to = P4 at hnx s4 H4
        clear hcell
        have Hnx := Lib.hid hnx; clear hnx
        go_wp2
        refine wp_region_tame (by kernel_rfl) (by kernel_rfl) (fun T _ W hT => ?_)
        have hx := hT.cell
        repeat (go_big_quiet_step ((first | (go_at_call 26; with_reducible exact hT.call (H2.out _)) | (go_at_call 27; with_reducible exact hT.call (H1.out _)) | (go_at_call 27; with_reducible exact hT.call (H3.out _)) | (go_at_call 27; with_reducible exact hT.call (H4.out _)))))
        refine wpQuiet_nil ?_
        intro z
        clear hx
        go_wp2
        go_roundw
        case rel => exact ⟨k + 1, by omega, by go_num, by rw [Hnx.out], bthen Hb.out (hT.below z)⟩
        case measure => simp [intOf]; omega
      · obtain rfl : k = es.length := by omega
        clear hcell
        go_wp2
        go_ret
        exact ⟨rfl, hb⟩
def catV (es : List En) : ByteArray × Bool := if catB es then (catT es es.length, true) else (⟨#[]⟩, false)
theorem ret_sb3 {s : ByteArray} {k : Bool} {p : ByteArray × Bool} (h : p = (s, k)) : Ending.returned (.tuple #[.string s, .bool k]) = .returned (.tuple #[.string p.1, .bool p.2]) := by rw [h]
end Go.Proofs.YticbmpjdcanjkaaDoor
