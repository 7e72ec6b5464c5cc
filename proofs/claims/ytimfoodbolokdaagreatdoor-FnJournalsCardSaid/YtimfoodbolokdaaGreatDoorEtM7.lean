/- Own texts put together: The text of a catalogue, in both; CatalogueText of both; Plain laws of a catalogue's text: its pieces and lines, and what each way to read makes of them; Plain laws of FnEntries: a dropped entry put back, known ranks counted, the widest entry, the text read back; Lists of structs of ints compared by the laws; Lists of ints compared by the laws; The program's reader of a record's line: the walk; The program's readers of a journal: the records at the beginning of a text; the records of a journal. Conditions: those of each theorem. -/
import Derived.Test.YtimfoodbolokdaaGreatDoorEtM1
import Derived.Test.YtimfoodbolokdaaGreatDoorEtM6
import Derived.Test.YtimfoodbolokdaaGreatDoorEtM5
import Derived.Deep.RegionHeld3
namespace Go.Proofs.YtimfoodbolokdaaGreatDoor
section
open Go Go.RowKit

def entT (e : En) : ByteArray := nText [e.a, e.b] ++ ⟨#[32]⟩ ++ itS e.lo ++ ⟨#[46, 46]⟩ ++ itS e.hi ++ ⟨#[32]⟩ ++ itS e.to ++ ⟨#[10]⟩
def catT (es : List En) : Nat → ByteArray
  | 0 => ⟨#[]⟩
  | k + 1 => catT es k ++ entT (enS.get es k)
structure EnBd (e : En) : Prop where
  a : -1000 ≤ e.a ∧ e.a ≤ 1000
  b : -10000 ≤ e.b ∧ e.b ≤ 10000
  lo : 0 ≤ e.lo ∧ e.lo ≤ 20
  hi : 0 ≤ e.hi ∧ e.hi ≤ 20
  tt : 0 ≤ e.to ∧ e.to ≤ 16
theorem enBd {e : En} (h : entB e.a e.b e.lo e.hi e.to = true) : EnBd e := by
  unfold entB at h
  simp only [Bool.and_eq_true, decide_eq_true_eq] at h
  have h2 := curveB_bd h.1
  exact ⟨h2.1, h2.2, by omega, by omega, by omega⟩
theorem okAt_ent9 {es : List En} {k : Nat} (h : okAt es k = true) : entB (enS.get es k).a (enS.get es k).b (enS.get es k).lo (enS.get es k).hi (enS.get es k).to = true := by
  unfold okAt at h
  simp only [Bool.and_eq_true] at h
  exact h.1
theorem str_add (a b : ByteArray) (ha : a.size ≤ 8388608) (hb : b.size ≤ 8388608) : ∀ W, (Op.stringOp .add a b).run Tryz.prog W = .ok (.string (a ++ b)) W := fun W =>
  run_string_add W a b (by omega) (by omega)
theorem nText2_size {a b : Int} (ha : -1000 ≤ a ∧ a ≤ 1000) (hb : -10000 ≤ b ∧ b ≤ 10000) : (nText [a, b]).size ≤ 40000 := by
  have := nText_size [a, b] 10000 (by intro e he; simp at he; omega)
  simp at this; omega
theorem entT_size {e : En} (h : EnBd e) : (entT e).size ≤ 50000 := by
  have h1 := nText2_size h.a h.b
  have h2 := itS_size e.lo; have h3 := itS_size e.hi; have h4 := itS_size e.to
  have := h.lo; have := h.hi; have := h.tt
  unfold entT
  simp only [ByteArray.size_append]
  rw [show (⟨#[32]⟩ : ByteArray).size = 1 from rfl, show (⟨#[46, 46]⟩ : ByteArray).size = 2 from rfl, show (⟨#[10]⟩ : ByteArray).size = 1 from rfl]
  omega
theorem catT_size (es : List En) (hv : ∀ j, j < es.length → okAt es j = true) : ∀ k, k ≤ es.length → (catT es k).size ≤ k * 50000
  | 0, _ => by exact Nat.zero_le _
  | k + 1, hk => by
    unfold catT
    rw [ByteArray.size_append]
    have h1 := catT_size es hv k (by omega)
    have h2 := entT_size (enBd (okAt_ent9 (hv k (by omega))))
    omega
theorem catB_all9 {es : List En} (h : catB es = true) : es.length ≤ 12 ∧ ∀ j, j < es.length → okAt es j = true := by
  unfold catB at h
  simp only [Bool.and_eq_true, decide_eq_true_eq, List.all_eq_true, List.mem_range] at h
  exact h
set_option maxRecDepth 20000 in
set_option maxHeartbeats 8000000 in
theorem catalogueText_any (v : Value) (es : List En) (w : World) (h : Rd enS w w.heap.size v es) (hl : es.length ≤ 12) (hv : ∀ j, j < es.length → okAt es j = true) (htab : Tab w) :
    Calls Tryz.prog 92 #[v] w fun e w' => e = .returned (.string (catT es es.length)) ∧ Below w.heap.size w w' := by
  obtain ⟨A, c, rfl, hcc, hm, hA⟩ := h
  unfold maxLen at hm
  rcases Nat.eq_zero_or_pos es.length with h0 | h0
  · obtain rfl : es = [] := List.eq_nil_of_length_eq_zero h0
    clear hA hv
    go_enter Tryz.func92, Tryz.ntmps92
    go_wp2
    refine wp_loop_rounds 1 ?_
    rw [rounds_succ]
    go_wp2
    go_ret
    exact ⟨rfl, Below.refl _ _⟩
  · obtain ⟨g, off, rfl, hg, hcell⟩ := hA h0
    clear hA
    have hcell := en_cells hcell
    have Hv := Lib.hid hv; clear hv
    have Ht := Lib.hid htab; clear htab
    go_enter Tryz.func92, Tryz.ntmps92
    go_wp2
    go_loopw [8, 3] (fun i o wr => ∃ k : Nat, k ≤ es.length ∧ i = .int .i64 k ∧ o = .string (catT es k) ∧ Below w.heap.size w wr) (fun i _ _ => es.length - (intOf i).toNat)
    case atStart => exact ⟨0, Nat.zero_le _, rfl, rfl, Below.refl _ _⟩
    case round =>
      obtain ⟨k, hk, rfl, rfl, hb⟩ := hrel
      have s0 := catT_size es Hv.out k hk
      replace s0 : (catT es k).size ≤ 1000000 := by omega
      by_cases hlt : k < es.length
      · obtain ⟨f0, f1, f2, f3, f4⟩ := hcell k hlt
        rw [← hb.cell (p := ⟨_, _, _⟩) hg] at f0 f1 f2 f3 f4
        have hbd := enBd (okAt_ent9 (Hv.out k hlt))
        have hnx : catT es (k + 1) = catT es k ++ entT (enS.get es k) := rfl
        unfold entT at hnx
        obtain ⟨ea, hea⟩ : ∃ e, enS.get es k = e := ⟨_, rfl⟩
        rw [hea] at f0 f1 f2 f3 f4 hbd hnx
        clear hea
        have hgr : g < wr.heap.size := Nat.lt_of_lt_of_le hg hb.size
        have hgr' : g < wr.heap.size + 1 := Nat.lt_succ_of_lt hgr
        have s2 := nText2_size hbd.a hbd.b
        have s1 : (itS ea.lo).size ≤ 10000 := by have := itS_size ea.lo; have := hbd.lo; omega
        have s3 : (itS ea.hi).size ≤ 10000 := by have := itS_size ea.hi; have := hbd.hi; omega
        have s4 : (itS ea.to).size ≤ 10000 := by have := itS_size ea.to; have := hbd.tt; omega
        have htr := Ht.out.on hb
        have Hb := Lib.hid hb; clear hb
        have HB1 := Lib.hid (Blk.new wr 29 #[.int .i64 ea.a, .int .i64 ea.b, .int .i64 ea.lo, .int .i64 ea.hi, .int .i64 ea.to])
        have Ht1 := Lib.hid (htr.on (bal (Below.refl _ _) (Obj.cells #[.int .i64 ea.a, .int .i64 ea.b, .int .i64 ea.lo, .int .i64 ea.hi, .int .i64 ea.to] 29))); clear htr
        have HS : Hid (∀ w', Below (wr.alloc (Obj.cells #[.int .i64 ea.a, .int .i64 ea.b, .int .i64 ea.lo, .int .i64 ea.hi, .int .i64 ea.to] 29)).heap.size (wr.alloc (Obj.cells #[.int .i64 ea.a, .int .i64 ea.b, .int .i64 ea.lo, .int .i64 ea.hi, .int .i64 ea.to] 29)) w' → (w'.cell? ⟨wr.heap.size, 0, none⟩ = some (.int .i64 ea.a) ∧ w'.cell? ⟨wr.heap.size, 1, none⟩ = some (.int .i64 ea.b) ∧ w'.cell? ⟨wr.heap.size, 2, none⟩ = some (.int .i64 ea.lo) ∧ w'.cell? ⟨wr.heap.size, 3, none⟩ = some (.int .i64 ea.hi) ∧ w'.cell? ⟨wr.heap.size, 4, none⟩ = some (.int .i64 ea.to) ∧ Below (wr.alloc (Obj.cells #[.int .i64 ea.a, .int .i64 ea.b, .int .i64 ea.lo, .int .i64 ea.hi, .int .i64 ea.to] 29)).heap.size (wr.alloc (Obj.cells #[.int .i64 ea.a, .int .i64 ea.b, .int .i64 ea.lo, .int .i64 ea.hi, .int .i64 ea.to] 29)) w')) := Lib.hid (fun w' hw => ⟨(hw.cell (p := ⟨wr.heap.size, 0, none⟩) HB1.out.lt).trans (HB1.out.cell 0), (hw.cell (p := ⟨wr.heap.size, 1, none⟩) HB1.out.lt).trans (HB1.out.cell 1), (hw.cell (p := ⟨wr.heap.size, 2, none⟩) HB1.out.lt).trans (HB1.out.cell 2), (hw.cell (p := ⟨wr.heap.size, 3, none⟩) HB1.out.lt).trans (HB1.out.cell 3), (hw.cell (p := ⟨wr.heap.size, 4, none⟩) HB1.out.lt).trans (HB1.out.cell 4), hw⟩)
        have Hnt := Lib.hid (fun (W : World) (hw : Below (World.alloc (wr.alloc (Obj.cells #[.int .i64 ea.a, .int .i64 ea.b, .int .i64 ea.lo, .int .i64 ea.hi, .int .i64 ea.to] 29)) (Obj.cells #[.int .i64 ea.a, .int .i64 ea.b] 3)).heap.size (World.alloc (wr.alloc (Obj.cells #[.int .i64 ea.a, .int .i64 ea.b, .int .i64 ea.lo, .int .i64 ea.hi, .int .i64 ea.to] 29)) (Obj.cells #[.int .i64 ea.a, .int .i64 ea.b] 3)) W) =>
          numbersText_any (.slice (some ⟨wr.heap.size + 1, 0, none⟩) 2 2) [ea.a, ea.b] W ((show Rd inS (World.alloc (wr.alloc (Obj.cells #[.int .i64 ea.a, .int .i64 ea.b, .int .i64 ea.lo, .int .i64 ea.hi, .int .i64 ea.to] 29)) (Obj.cells #[.int .i64 ea.a, .int .i64 ea.b] 3)) (World.alloc (wr.alloc (Obj.cells #[.int .i64 ea.a, .int .i64 ea.b, .int .i64 ea.lo, .int .i64 ea.hi, .int .i64 ea.to] 29)) (Obj.cells #[.int .i64 ea.a, .int .i64 ea.b] 3)).heap.size (.slice (some ⟨wr.heap.size + 1, 0, none⟩) 2 2) [ea.a, ea.b] by rw [← World.size_alloc wr (Obj.cells #[.int .i64 ea.a, .int .i64 ea.b, .int .i64 ea.lo, .int .i64 ea.hi, .int .i64 ea.to] 29)]; exact rd_ints (wr.alloc (Obj.cells #[.int .i64 ea.a, .int .i64 ea.b, .int .i64 ea.lo, .int .i64 ea.hi, .int .i64 ea.to] 29)) 3 [ea.a, ea.b] (by simp)).on hw) (by simp) (by
            intro j hj
            rw [inS_get hj]
            have h1 := hbd.a; have h2 := hbd.b
            have h6 : [ea.a, ea.b][j] ∈ [ea.a, ea.b] := List.getElem_mem hj
            generalize [ea.a, ea.b][j] = y at h6
            simp at h6
            omega) ((Ht1.out.on (bal (Below.refl _ _) _)).on hw))
        have H1 := Lib.hid (fun W (hw : Below (wr.alloc (Obj.cells #[.int .i64 ea.a, .int .i64 ea.b, .int .i64 ea.lo, .int .i64 ea.hi, .int .i64 ea.to] 29)).heap.size (wr.alloc (Obj.cells #[.int .i64 ea.a, .int .i64 ea.b, .int .i64 ea.lo, .int .i64 ea.hi, .int .i64 ea.to] 29)) W) => itoa_any ea.lo W (by have := hbd.lo; omega) (Ht1.out.on hw))
        have H3 := Lib.hid (fun W (hw : Below (wr.alloc (Obj.cells #[.int .i64 ea.a, .int .i64 ea.b, .int .i64 ea.lo, .int .i64 ea.hi, .int .i64 ea.to] 29)).heap.size (wr.alloc (Obj.cells #[.int .i64 ea.a, .int .i64 ea.b, .int .i64 ea.lo, .int .i64 ea.hi, .int .i64 ea.to] 29)) W) => itoa_any ea.hi W (by have := hbd.hi; omega) (Ht1.out.on hw))
        have H4 := Lib.hid (fun W (hw : Below (wr.alloc (Obj.cells #[.int .i64 ea.a, .int .i64 ea.b, .int .i64 ea.lo, .int .i64 ea.hi, .int .i64 ea.to] 29)).heap.size (wr.alloc (Obj.cells #[.int .i64 ea.a, .int .i64 ea.b, .int .i64 ea.lo, .int .i64 ea.hi, .int .i64 ea.to] 29)) W) => itoa_any ea.to W (by have := hbd.tt; omega) (Ht1.out.on hw))
        have HbW := Lib.hid (show Below w.heap.size w (wr.alloc (Obj.cells #[.int .i64 ea.a, .int .i64 ea.b, .int .i64 ea.lo, .int .i64 ea.hi, .int .i64 ea.to] 29)) from bal Hb.out _)
        have hb0 := Below.refl (wr.alloc (Obj.cells #[.int .i64 ea.a, .int .i64 ea.b, .int .i64 ea.lo, .int .i64 ea.hi, .int .i64 ea.to] 29)).heap.size (wr.alloc (Obj.cells #[.int .i64 ea.a, .int .i64 ea.b, .int .i64 ea.lo, .int .i64 ea.hi, .int .i64 ea.to] 29))
        clear hbd
        generalize catT es k = P0 at hnx s0
        generalize nText [ea.a, ea.b] = P2 at hnx s2 Hnt
        generalize itS ea.lo = P1 at hnx s1 H1
        generalize itS ea.hi = P3 at hnx s3 H3
        generalize itS ea.to = P4 at hnx s4 H4
        clear hcell
        obtain ⟨Q1, eQ1⟩ : ∃ Q, P2 ++ ⟨#[32]⟩ = Q := ⟨_, rfl⟩
        have aQ1 := str_add P2 ⟨#[32]⟩ (Nat.le_trans s2 (by decide)) (Nat.le_trans (show (⟨#[32]⟩ : ByteArray).size ≤ 10 by decide) (by decide))
        have zQ1 : Q1.size ≤ 100000 := by rw [← eQ1, ByteArray.size_append]; have h1 := s2; have h2 := (show (⟨#[32]⟩ : ByteArray).size ≤ 10 by decide); omega
        rw [eQ1] at aQ1 hnx; clear eQ1
        obtain ⟨Q2, eQ2⟩ : ∃ Q, Q1 ++ P1 = Q := ⟨_, rfl⟩
        have aQ2 := str_add Q1 P1 (Nat.le_trans zQ1 (by decide)) (Nat.le_trans s1 (by decide))
        have zQ2 : Q2.size ≤ 150000 := by rw [← eQ2, ByteArray.size_append]; have h1 := zQ1; have h2 := s1; omega
        rw [eQ2] at aQ2 hnx; clear eQ2
        obtain ⟨Q3, eQ3⟩ : ∃ Q, Q2 ++ ⟨#[46, 46]⟩ = Q := ⟨_, rfl⟩
        have aQ3 := str_add Q2 ⟨#[46, 46]⟩ (Nat.le_trans zQ2 (by decide)) (Nat.le_trans (show (⟨#[46, 46]⟩ : ByteArray).size ≤ 10 by decide) (by decide))
        have zQ3 : Q3.size ≤ 200000 := by rw [← eQ3, ByteArray.size_append]; have h1 := zQ2; have h2 := (show (⟨#[46, 46]⟩ : ByteArray).size ≤ 10 by decide); omega
        rw [eQ3] at aQ3 hnx; clear eQ3
        obtain ⟨Q4, eQ4⟩ : ∃ Q, Q3 ++ P3 = Q := ⟨_, rfl⟩
        have aQ4 := str_add Q3 P3 (Nat.le_trans zQ3 (by decide)) (Nat.le_trans s3 (by decide))
        have zQ4 : Q4.size ≤ 250000 := by rw [← eQ4, ByteArray.size_append]; have h1 := zQ3; have h2 := s3; omega
        rw [eQ4] at aQ4 hnx; clear eQ4
        obtain ⟨Q5, eQ5⟩ : ∃ Q, Q4 ++ ⟨#[32]⟩ = Q := ⟨_, rfl⟩
        have aQ5 := str_add Q4 ⟨#[32]⟩ (Nat.le_trans zQ4 (by decide)) (Nat.le_trans (show (⟨#[32]⟩ : ByteArray).size ≤ 10 by decide) (by decide))
        have zQ5 : Q5.size ≤ 300000 := by rw [← eQ5, ByteArray.size_append]; have h1 := zQ4; have h2 := (show (⟨#[32]⟩ : ByteArray).size ≤ 10 by decide); omega
        rw [eQ5] at aQ5 hnx; clear eQ5
        obtain ⟨Q6, eQ6⟩ : ∃ Q, Q5 ++ P4 = Q := ⟨_, rfl⟩
        have aQ6 := str_add Q5 P4 (Nat.le_trans zQ5 (by decide)) (Nat.le_trans s4 (by decide))
        have zQ6 : Q6.size ≤ 350000 := by rw [← eQ6, ByteArray.size_append]; have h1 := zQ5; have h2 := s4; omega
        rw [eQ6] at aQ6 hnx; clear eQ6
        obtain ⟨Q7, eQ7⟩ : ∃ Q, Q6 ++ ⟨#[10]⟩ = Q := ⟨_, rfl⟩
        have aQ7 := str_add Q6 ⟨#[10]⟩ (Nat.le_trans zQ6 (by decide)) (Nat.le_trans (show (⟨#[10]⟩ : ByteArray).size ≤ 10 by decide) (by decide))
        have zQ7 : Q7.size ≤ 400000 := by rw [← eQ7, ByteArray.size_append]; have h1 := zQ6; have h2 := (show (⟨#[10]⟩ : ByteArray).size ≤ 10 by decide); omega
        rw [eQ7] at aQ7 hnx; clear eQ7
        have aQ8 := str_add P0 Q7 (Nat.le_trans s0 (by decide)) (Nat.le_trans zQ7 (by decide))
        rw [← hnx] at aQ8
        clear hnx s0 s1 s2 s3 s4 zQ1 zQ2 zQ3 zQ4 zQ5 zQ6 zQ7
        obtain ⟨Q8, hQ8⟩ : ∃ Q, catT es (k + 1) = Q := ⟨_, rfl⟩
        rw [hQ8] at aQ8
        have HQ8 := Lib.hid hQ8; clear hQ8
        go_wp2
        go_region_held3 (fun w' => w'.cell? ⟨wr.heap.size, 0, none⟩ = some (.int .i64 ea.a) ∧ w'.cell? ⟨wr.heap.size, 1, none⟩ = some (.int .i64 ea.b) ∧ w'.cell? ⟨wr.heap.size, 2, none⟩ = some (.int .i64 ea.lo) ∧ w'.cell? ⟨wr.heap.size, 3, none⟩ = some (.int .i64 ea.hi) ∧ w'.cell? ⟨wr.heap.size, 4, none⟩ = some (.int .i64 ea.to) ∧ Below (wr.alloc (Obj.cells #[.int .i64 ea.a, .int .i64 ea.b, .int .i64 ea.lo, .int .i64 ea.hi, .int .i64 ea.to] 29)).heap.size (wr.alloc (Obj.cells #[.int .i64 ea.a, .int .i64 ea.b, .int .i64 ea.lo, .int .i64 ea.hi, .int .i64 ea.to] 29)) w') (((go_split_ands; refine HS.out _ ?_; repeat (first | (with_reducible assumption) | (with_reducible exact Below.refl _ _) | (with_reducible refine Below.drew ?_) | (with_reducible refine bal ?_ _) | (with_reducible refine bthen ?_ (by with_reducible assumption)))))) ((first | (go_at_call 165; (with_reducible refine (Hnt.out _ (by first | (with_reducible exact Below.refl _ _) | (with_reducible exact Below.drew (Below.refl _ _)))).mono ?_); rintro r w2 ⟨rfl, hb2⟩) | (go_at_call 166; (with_reducible refine (H1.out _ (by go_split_ands; repeat (first | (with_reducible assumption) | (with_reducible exact Below.refl _ _) | (with_reducible refine Below.drew ?_) | (with_reducible refine bal ?_ _) | (with_reducible refine bthen ?_ (by with_reducible assumption))))).mono ?_); rintro r w3 ⟨rfl, hb3⟩) | (go_at_call 166; (with_reducible refine (H3.out _ (by go_split_ands; repeat (first | (with_reducible assumption) | (with_reducible exact Below.refl _ _) | (with_reducible refine Below.drew ?_) | (with_reducible refine bal ?_ _) | (with_reducible refine bthen ?_ (by with_reducible assumption))))).mono ?_); rintro r w4 ⟨rfl, hb4⟩) | (go_at_call 166; (with_reducible refine (H4.out _ (by go_split_ands; repeat (first | (with_reducible assumption) | (with_reducible exact Below.refl _ _) | (with_reducible refine Below.drew ?_) | (with_reducible refine bal ?_ _) | (with_reducible refine bthen ?_ (by with_reducible assumption))))).mono ?_); rintro r w5 ⟨rfl, hb5⟩)))
        go_wp2
        go_roundw
        case rel => exact ⟨k + 1, by omega, by go_num, by rw [HQ8.out], bthen HbW.out (by go_split_ands; repeat (first | (with_reducible assumption) | (with_reducible exact Below.refl _ _) | (with_reducible refine Below.drew ?_) | (with_reducible refine bal ?_ _) | (with_reducible refine bthen ?_ (by with_reducible assumption))))⟩
        case measure => simp [intOf]; omega
      · obtain rfl : k = es.length := by omega
        clear hcell
        go_wp2
        go_ret
        exact ⟨rfl, hb⟩
set_option maxRecDepth 20000 in
set_option maxHeartbeats 8000000 in
theorem caText_any (v : Value) (es : List En) (w : World) (h : Rd enS w w.heap.size v es) (hl : es.length ≤ 12) (hv : ∀ j, j < es.length → okAt es j = true) :
    Calls Tryz.prog 93 #[v] w fun e w' => e = .returned (.string (catT es es.length)) ∧ Below w.heap.size w w' := by
  obtain ⟨A, c, rfl, hcc, hm, hA⟩ := h
  unfold maxLen at hm
  rcases Nat.eq_zero_or_pos es.length with h0 | h0
  · obtain rfl : es = [] := List.eq_nil_of_length_eq_zero h0
    clear hA hv
    go_enter Tryz.func93, Tryz.ntmps93
    go_wp2
    refine wp_loop_rounds 1 ?_
    rw [rounds_succ]
    go_wp2
    go_ret
    exact ⟨rfl, Below.refl _ _⟩
  · obtain ⟨g, off, rfl, hg, hcell⟩ := hA h0
    clear hA
    have hcell := en_cells hcell
    have Hv := Lib.hid hv; clear hv
    skip
    go_enter Tryz.func93, Tryz.ntmps93
    go_wp2
    go_loopw [8, 3] (fun i o wr => ∃ k : Nat, k ≤ es.length ∧ i = .int .i64 k ∧ o = .string (catT es k) ∧ Below w.heap.size w wr) (fun i _ _ => es.length - (intOf i).toNat)
    case atStart => exact ⟨0, Nat.zero_le _, rfl, rfl, Below.refl _ _⟩
    case round =>
      obtain ⟨k, hk, rfl, rfl, hb⟩ := hrel
      have s0 := catT_size es Hv.out k hk
      replace s0 : (catT es k).size ≤ 1000000 := by omega
      by_cases hlt : k < es.length
      · obtain ⟨f0, f1, f2, f3, f4⟩ := hcell k hlt
        rw [← hb.cell (p := ⟨_, _, _⟩) hg] at f0 f1 f2 f3 f4
        have hbd := enBd (okAt_ent9 (Hv.out k hlt))
        have hnx : catT es (k + 1) = catT es k ++ entT (enS.get es k) := rfl
        unfold entT at hnx
        obtain ⟨ea, hea⟩ : ∃ e, enS.get es k = e := ⟨_, rfl⟩
        rw [hea] at f0 f1 f2 f3 f4 hbd hnx
        clear hea
        have hgr : g < wr.heap.size := Nat.lt_of_lt_of_le hg hb.size
        have hgr' : g < wr.heap.size + 1 := Nat.lt_succ_of_lt hgr
        have s2 := nText2_size hbd.a hbd.b
        have s1 : (itS ea.lo).size ≤ 10000 := by have := itS_size ea.lo; have := hbd.lo; omega
        have s3 : (itS ea.hi).size ≤ 10000 := by have := itS_size ea.hi; have := hbd.hi; omega
        have s4 : (itS ea.to).size ≤ 10000 := by have := itS_size ea.to; have := hbd.tt; omega
        have H2 := Lib.hid (fun W => ecText_any ea.a ea.b W (by have := hbd.a; omega) (by have := hbd.b; omega))
        have H1 := Lib.hid (fun W => l1Num_int ea.lo W (by have := hbd.lo; omega))
        have H3 := Lib.hid (fun W => l1Num_int ea.hi W (by have := hbd.hi; omega))
        have H4 := Lib.hid (fun W => l1Num_int ea.to W (by have := hbd.tt; omega))
        have Hb := Lib.hid (show Below w.heap.size w (wr.alloc (Obj.cells #[.int .i64 ea.a, .int .i64 ea.b, .int .i64 ea.lo, .int .i64 ea.hi, .int .i64 ea.to] 29)) from bal hb _)
        clear hbd
        generalize catT es k = P0 at hnx s0
        generalize nText [ea.a, ea.b] = P2 at hnx s2 H2
        generalize itS ea.lo = P1 at hnx s1 H1
        generalize itS ea.hi = P3 at hnx s3 H3
        generalize itS ea.to = P4 at hnx s4 H4
        clear hcell
        have Hnx := Lib.hid hnx; clear hnx
        go_wp2
        refine wp_region_tame (by kernel_rfl) (by kernel_rfl) (fun T _ W hT => ?_)
        have hx := hT.cell
        repeat (go_big_quiet_step ((first | (go_at_call 167; with_reducible exact hT.call (H2.out _)) | (go_at_call 168; with_reducible exact hT.call (H1.out _)) | (go_at_call 168; with_reducible exact hT.call (H3.out _)) | (go_at_call 168; with_reducible exact hT.call (H4.out _)))))
        refine wpQuiet_nil ?_
        intro z
        clear hx
        go_wp2
        go_roundw
        case rel => exact ⟨k + 1, by omega, by go_num, by rw [Hnx.out], bthen Hb.out (hT.below z)⟩
        case measure => simp [intOf]; omega
      · obtain rfl : k = es.length := by omega
        clear hcell
        go_wp2
        go_ret
        exact ⟨rfl, hb⟩
def catV (es : List En) : ByteArray × Bool := if catB es then (catT es es.length, true) else (⟨#[]⟩, false)
theorem ret_sb3 {s : ByteArray} {k : Bool} {p : ByteArray × Bool} (h : p = (s, k)) : Ending.returned (.tuple #[.string s, .bool k]) = .returned (.tuple #[.string p.1, .bool p.2]) := by rw [h]
set_option maxHeartbeats 1600000 in
theorem implCatText_any (v : Value) (es : List En) (w : World) (h : Rd enS w w.heap.size v es) (htab : Tab w) :
    Calls Tryz.prog 16 #[v] w fun e w' => e = .returned (.tuple #[.string (catV es).1, .bool (catV es).2]) ∧ Below w.heap.size w w' := by
  go_enter Tryz.func16, Tryz.ntmps16
  go_wp2_with fail
  refine (isCatalogue_any _ _ _ h).mono ?_; rintro e w1 ⟨rfl, hb1⟩
  cases hk : catB es
  · have Hv := Lib.hid (show catV es = (⟨#[]⟩, false) by unfold catV; rw [hk]; rfl)
    clear hk
    go_wp2
    go_ret2
    exact ⟨ret_sb3 Hv.out, hb1⟩
  · have Hv := Lib.hid (show catV es = (catT es es.length, true) by unfold catV; rw [hk]; rfl)
    have Hal := Lib.hid (catB_all9 hk)
    clear hk
    go_wp2_with fail
    refine (catalogueText_any _ _ _ (h.on hb1) Hal.out.1 Hal.out.2 (htab.on hb1)).mono ?_; rintro e w2 ⟨rfl, hb2⟩
    go_wp2
    go_ret2
    exact ⟨ret_sb3 Hv.out, bthen hb1 hb2⟩
set_option maxHeartbeats 1600000 in
theorem specCatText_any (v : Value) (es : List En) (w : World) (h : Rd enS w w.heap.size v es) :
    Calls Tryz.prog 17 #[v] w fun e w' => e = .returned (.tuple #[.string (catV es).1, .bool (catV es).2]) ∧ Below w.heap.size w w' := by
  go_enter Tryz.func17, Tryz.ntmps17
  go_wp2_with fail
  refine (caGood_any _ _ _ h).mono ?_; rintro e w1 ⟨rfl, hb1⟩
  cases hk : catB es
  · have Hv := Lib.hid (show catV es = (⟨#[]⟩, false) by unfold catV; rw [hk]; rfl)
    clear hk
    go_wp2
    go_ret2
    exact ⟨ret_sb3 Hv.out, hb1⟩
  · have Hv := Lib.hid (show catV es = (catT es es.length, true) by unfold catV; rw [hk]; rfl)
    have Hal := Lib.hid (catB_all9 hk)
    clear hk
    go_wp2_with fail
    refine (caText_any _ _ _ (h.on hb1) Hal.out.1 Hal.out.2).mono ?_; rintro e w2 ⟨rfl, hb2⟩
    go_wp2
    go_ret2
    exact ⟨ret_sb3 Hv.out, bthen hb1 hb2⟩
end
section
open Go Go.RowKit

/-- A text is that of a catalogue. -/
def PcIs (s : ByteArray) (es : List En) : Prop := catB es = true ∧ catT es es.length = s
def En.ok (e : En) : Bool := entB e.a e.b e.lo e.hi e.to
def entW2 (e : En) : List UInt8 := Lib.itoa e.lo ++ 46 :: 46 :: Lib.itoa e.hi
def entD (e : En) : List UInt8 := Lib.join [Lib.itoa e.a, Lib.itoa e.b, entW2 e, Lib.itoa e.to] [32]
theorem entD_eq (e : En) : entD e = Lib.itoa e.a ++ 32 :: (Lib.itoa e.b ++ 32 :: (entW2 e ++ 32 :: Lib.itoa e.to)) := by
  unfold entD
  rw [join2, join2, join2, Lib.join_one]
theorem entT_data (e : En) : (entT e).data.toList = entD e ++ [10] := by
  rw [entD_eq]
  unfold entT entW2 itS
  simp [nTextD]
def glue (c : UInt8) (ls : List (List UInt8)) : List UInt8 := ls.flatMap (· ++ [c])
theorem glue_cons (c : UInt8) (x : List UInt8) (r : List (List UInt8)) : glue c (x :: r) = x ++ c :: glue c r := by
  simp [glue]
theorem catT_glue (es : List En) : ∀ k, k ≤ es.length → (catT es k).data.toList = glue 10 ((es.take k).map entD)
  | 0, _ => by rfl
  | k + 1, hk => by
    have ih := catT_glue es k (by omega)
    have hg : enS.get es k = es[k] := by
      unfold Shape.get
      rw [List.getD_eq_getElem?_getD, List.getElem?_eq_getElem (by omega)]; rfl
    unfold catT
    rw [ByteArray.data_append, Array.toList_append, ih, entT_data, hg, List.take_succ_eq_append_getElem (by omega), List.map_append]
    unfold glue
    rw [List.flatMap_append]
    simp only [List.map_cons, List.map_nil, List.flatMap_cons, List.flatMap_nil, List.append_nil]
theorem pcIs_data {s : ByteArray} {es : List En} (h : PcIs s es) : s.data.toList = glue 10 (es.map entD) := by
  rw [← h.2, catT_glue es _ (Nat.le_refl _), List.take_length]
theorem splitK_glue (c : UInt8) : ∀ ls : List (List UInt8), (∀ w ∈ ls, c ∉ w) → Lib.splitK [c] 1 ls.length (glue c ls) = ls.map (· ++ [c]) ++ [[]]
  | [], _ => rfl
  | x :: r, h => by
    have ih := splitK_glue c r (fun w hw => h w (by simp [hw]))
    rw [glue_cons, List.length_cons]
    unfold Lib.splitK
    rw [ix_here c _ x (h x (by simp)), if_neg (by intro e; have := beq_iff_eq.1 e; omega)]
    simp only [Int.toNat_natCast, List.length_cons, List.length_nil, Nat.zero_add]
    rw [show (x ++ c :: glue c r).drop (x.length + 1) = glue c r by rw [← List.drop_drop, List.drop_left]; rfl, ih]
    rw [show (x ++ c :: glue c r).take (x.length + 1) = x ++ [c] by
      rw [List.take_append, List.take_of_length_le (by omega), show x.length + 1 - x.length = 1 by omega]; rfl]
    rfl
theorem count_glue (c : UInt8) : ∀ ls : List (List UInt8), (∀ w ∈ ls, c ∉ w) → (glue c ls).count c = ls.length
  | [], _ => rfl
  | x :: r, h => by
    rw [glue_cons, List.count_append, List.count_cons_self, count_glue c r (fun w hw => h w (by simp [hw])), List.count_eq_zero.2 (h x (by simp)), List.length_cons]
    omega
theorem spl_glue (c : UInt8) : ∀ ls : List (List UInt8), (∀ w ∈ ls, c ∉ w) → spl c (glue c ls) = ls ++ [[]]
  | [], _ => rfl
  | x :: r, h => by
    rw [glue_cons, spl_here c _ x (h x (by simp)), spl_glue c r (fun w hw => h w (by simp [hw]))]
    rfl
theorem itoa_no {c : UInt8} (hc : ¬ (c.toNat = 45 ∨ 48 ≤ c.toNat ∧ c.toNat ≤ 57)) (n : Int) : c ∉ Lib.itoa n := fun h => hc (itoa_byte n c h)
theorem w2_no {c : UInt8} (hc : ¬ (c.toNat = 45 ∨ 46 ≤ c.toNat ∧ c.toNat ≤ 57)) (e : En) : c ∉ entW2 e := by
  unfold entW2
  intro h
  have h46 : c ≠ 46 := by rintro rfl; exact hc (Or.inr (by decide))
  simp only [List.mem_append, List.mem_cons] at h
  rcases h with h | h | h | h
  · exact itoa_no (fun hh => hc (by omega)) _ h
  · exact h46 h
  · exact h46 h
  · exact itoa_no (fun hh => hc (by omega)) _ h
theorem entD_no10 (e : En) : (10 : UInt8) ∉ entD e := by
  rw [entD_eq]
  intro h
  simp only [List.mem_append, List.mem_cons] at h
  rcases h with h | h | h | h | h | h | h
  · exact itoa_no (by decide) _ h
  · revert h; decide
  · exact itoa_no (by decide) _ h
  · revert h; decide
  · exact w2_no (by decide) _ h
  · revert h; decide
  · exact itoa_no (by decide) _ h

/-! ### The pieces of a text: each with the byte at its end -/
def pcsB (s : ByteArray) : List ByteArray := Lib.splitB ⟨#[10]⟩ 1 (Lib.countB s ⟨#[10]⟩) s
theorem pcs_data {s : ByteArray} {es : List En} (h : PcIs s es) : (pcsB s).map (·.data.toList) = (es.map entD).map (· ++ [10]) ++ [[]] := by
  have hno : ∀ w ∈ es.map entD, (10 : UInt8) ∉ w := by
    intro w hw
    obtain ⟨e, -, rfl⟩ := List.mem_map.1 hw
    exact entD_no10 e
  have hc : Lib.countB s ⟨#[10]⟩ = (es.map entD).length := by
    show Lib.count s.data.toList [10] = _
    rw [Lib.count_one, pcIs_data h, count_glue 10 _ hno]
  unfold pcsB
  rw [Lib.splitB_data, hc, pcIs_data h]
  exact splitK_glue 10 _ hno
theorem pcs_len {s : ByteArray} {es : List En} (h : PcIs s es) : (pcsB s).length = es.length + 1 := by
  have := congrArg List.length (pcs_data h)
  simpa using this
theorem pcs_at {s : ByteArray} {es : List En} (h : PcIs s es) {j : Nat} (hj : j < es.length) (hp : j < (pcsB s).length) : (pcsB s)[j].data.toList = entD es[j] ++ [10] := by
  have h1 := congrArg (fun l => l[j]?) (pcs_data h)
  simp only [List.getElem?_map, List.getElem?_eq_getElem hp, Option.map_some] at h1
  rw [List.getElem?_append_left (by simpa using hj)] at h1
  simp only [List.getElem?_map, List.getElem?_eq_getElem hj, Option.map_some] at h1
  exact Option.some.inj h1
theorem pcs_end {s : ByteArray} {es : List En} (h : PcIs s es) {j : Nat} (hj : es.length ≤ j) (hp : j < (pcsB s).length) : (pcsB s)[j].data.toList = [] := by
  have hl := pcs_len h
  obtain rfl : j = es.length := by omega
  have h1 := congrArg (fun l => l[es.length]?) (pcs_data h)
  simp only [List.getElem?_map, List.getElem?_eq_getElem hp, Option.map_some] at h1
  rw [List.getElem?_append_right (by simp)] at h1
  simpa using h1
theorem pcIs_ok {s : ByteArray} {es : List En} (h : PcIs s es) {j : Nat} (hj : j < es.length) : es[j].ok = true := by
  have h1 := okAt_ent9 ((catB_all9 h.1).2 j hj)
  have hg : enS.get es j = es[j] := by
    unfold Shape.get
    rw [List.getD_eq_getElem?_getD, List.getElem?_eq_getElem hj]; rfl
  rw [hg] at h1
  exact h1
theorem pcIs_len {s : ByteArray} {es : List En} (h : PcIs s es) : es.length ≤ 12 := (catB_all9 h.1).1

/-! ### The program's way to read a line -/
def trimL (p : List UInt8) : List UInt8 := Lib.trimSuffix p [10]
theorem trimL_line (l : List UInt8) : trimL (l ++ [10]) = l := by
  unfold trimL Lib.trimSuffix Lib.hasSuffix
  rw [if_pos (by rw [List.isSuffixOf_iff_suffix]; exact List.suffix_append _ _)]
  simp
theorem trimL_len (p : List UInt8) : (trimL p).length ≤ p.length := by
  unfold trimL Lib.trimSuffix
  split
  · rw [List.length_take]; exact Nat.min_le_right _ _
  · exact Nat.le_refl _
def splW4 (s : ByteArray) : List ByteArray := Lib.splitB ⟨#[32]⟩ 0 (Lib.countB s ⟨#[32]⟩) s
theorem splW4_length (s : ByteArray) : (splW4 s).length = Lib.countB s ⟨#[32]⟩ + 1 := Lib.splitB_all ⟨#[32]⟩ (by decide) 0 _ _ rfl
theorem splW4_join {s : ByteArray} {x : List UInt8} {r : List (List UInt8)} (h : s.data.toList = Lib.join (x :: r) [32]) (hno : ∀ w ∈ x :: r, (32 : UInt8) ∉ w) : (splW4 s).map (·.data.toList) = x :: r := by
  have hc : Lib.countB s ⟨#[32]⟩ = r.length := by
    show Lib.count s.data.toList [32] = _
    rw [Lib.count_one, h, count_join 32 _ _ hno]
  unfold splW4
  rw [Lib.splitB_data, hc, h]
  exact splitK_join 32 r x hno
/-- Four words of a line, read as an entry. -/
def rd4I (w0 w1 w2 w3 : List UInt8) : Option En :=
  match paC (w0 ++ 32 :: w1), Lib.atoiAll (Lib.cut w2 [46, 46]).1, Lib.atoiAll (Lib.cut w2 [46, 46]).2.1, Lib.atoiAll w3 with
  | some (a, b), .ok lo, .ok hi, .ok t => some ⟨a, b, lo, hi, t⟩
  | _, _, _, _ => none
theorem ix2_here (r : List UInt8) : ∀ w : List UInt8, (46 : UInt8) ∉ w → Lib.index (w ++ 46 :: 46 :: r) [46, 46] = w.length
  | [], _ => by
    rw [List.nil_append]
    unfold Lib.index
    rw [if_pos (by simp [List.isPrefixOf])]
    rfl
  | b :: l, h => by
    have hne : (46 : UInt8) ≠ b := fun e => h (by simp [e])
    rw [List.cons_append]
    unfold Lib.index
    rw [if_neg (by simp [List.isPrefixOf, hne]), ix2_here r l (fun h2 => h (by simp [h2]))]
    rw [if_neg (by intro e; have := beq_iff_eq.1 e; omega)]
    simp
theorem cut2_here (w r : List UInt8) (h : (46 : UInt8) ∉ w) : Lib.cut (w ++ 46 :: 46 :: r) [46, 46] = (w, r, true) := by
  unfold Lib.cut
  rw [ix2_here r w h, if_pos (by omega)]
  simp only [Int.toNat_natCast, List.take_left', List.length_cons, List.length_nil, Nat.zero_add]
  rw [show (w ++ 46 :: 46 :: r).drop (w.length + 2) = r by rw [← List.drop_drop, List.drop_left]; rfl]
theorem atoi_big (n : Int) (h : n.natAbs < 10 ^ 15) : Lib.atoiAll (Lib.itoa n) = .ok n := atoiAll_itS n h
theorem ok_bd {e : En} (h : e.ok = true) : EnBd e := enBd h
theorem ok_curve {e : En} (h : e.ok = true) : curveB e.a e.b = true := by
  unfold En.ok entB at h
  simp only [Bool.and_eq_true] at h
  exact h.1
theorem rd4I_ent {e : En} (h : e.ok = true) : rd4I (Lib.itoa e.a) (Lib.itoa e.b) (entW2 e) (Lib.itoa e.to) = some e := by
  have hb := ok_bd h
  have h1 := hb.a; have h2 := hb.b; have h3 := hb.lo; have h4 := hb.hi; have h5 := hb.tt
  unfold rd4I entW2
  rw [cut2_here _ _ (itoa_no (by decide) _), ← nTextD, paC_text (ok_curve h)]
  simp only
  rw [atoi_big e.lo (by omega), atoi_big e.hi (by omega), atoi_big e.to (by omega)]
/-- A line, read by the program. -/
def clI (p : List UInt8) : Option En :=
  match (splW4 ⟨(trimL p).toArray⟩).map (·.data.toList) with
  | [w0, w1, w2, w3] => rd4I w0 w1 w2 w3
  | _ => none
theorem clI_ent {e : En} (h : e.ok = true) : clI (entD e ++ [10]) = some e := by
  unfold clI
  rw [trimL_line, splW4_join (s := ⟨(entD e).toArray⟩) (x := Lib.itoa e.a) (r := [Lib.itoa e.b, entW2 e, Lib.itoa e.to]) rfl]
  · exact rd4I_ent h
  · intro w hw
    simp only [List.mem_cons, List.not_mem_nil, or_false] at hw
    rcases hw with rfl | rfl | rfl | rfl
    · exact itoa_no32 _
    · exact itoa_no32 _
    · exact w2_no (by decide) _
    · exact itoa_no32 _

/-! ### The reference's way to read a line -/
def rd4S (w0 w1 w2 w3 : List UInt8) : Option En :=
  match paC (w0 ++ 32 :: w1), spl 46 w2 with
  | some (a, b), [x, _, y] => some ⟨a, b, rdN x, rdN y, rdN w3⟩
  | _, _ => none
theorem rd4S_ent {e : En} (h : e.ok = true) : rd4S (Lib.itoa e.a) (Lib.itoa e.b) (entW2 e) (Lib.itoa e.to) = some e := by
  have hb := ok_bd h
  have h3 := hb.lo; have h4 := hb.hi; have h5 := hb.tt
  have hs : spl 46 (entW2 e) = [Lib.itoa e.lo, [], Lib.itoa e.hi] := by
    unfold entW2
    rw [spl_here 46 _ _ (itoa_no (by decide) _), show (46 : UInt8) :: Lib.itoa e.hi = [] ++ 46 :: Lib.itoa e.hi from rfl, spl_here 46 _ _ (by simp), spl_none 46 _ (itoa_no (by decide) _)]
  unfold rd4S
  rw [hs, ← nTextD, paC_text (ok_curve h)]
  simp only
  rw [rdN_itoa (by omega) (by omega), rdN_itoa (by omega) (by omega), rdN_itoa (by omega) (by omega)]
def clS (l : List UInt8) : Option En :=
  match spl 32 l with
  | [w0, w1, w2, w3] => rd4S w0 w1 w2 w3
  | _ => none
theorem clS_ent {e : En} (h : e.ok = true) : clS (entD e) = some e := by
  unfold clS
  have hs : spl 32 (entD e) = [Lib.itoa e.a, Lib.itoa e.b, entW2 e, Lib.itoa e.to] := by
    unfold entD
    refine spl_join 32 _ _ (fun w hw => ?_)
    simp only [List.mem_cons, List.not_mem_nil, or_false] at hw
    rcases hw with rfl | rfl | rfl | rfl
    · exact itoa_no32 _
    · exact itoa_no32 _
    · exact w2_no (by decide) _
    · exact itoa_no32 _
  rw [hs]
  exact rd4S_ent h
theorem lines_data {s : ByteArray} {es : List En} (h : PcIs s es) : spl 10 s.data.toList = es.map entD ++ [[]] := by
  rw [pcIs_data h]
  refine spl_glue 10 _ (fun w hw => ?_)
  obtain ⟨e, -, rfl⟩ := List.mem_map.1 hw
  exact entD_no10 e
theorem lines_len {s : ByteArray} {es : List En} (h : PcIs s es) : (spl 10 s.data.toList).length = es.length + 1 := by
  rw [lines_data h]; simp
theorem lines_at {s : ByteArray} {es : List En} (h : PcIs s es) {j : Nat} (hj : j + 1 < (spl 10 s.data.toList).length) : ∃ h2 : j < es.length, (spl 10 s.data.toList)[j] = entD es[j] := by
  have hl := lines_len h
  have h2 : j < es.length := by omega
  refine ⟨h2, ?_⟩
  have h1 : (spl 10 s.data.toList)[j]? = (es.map entD ++ [[]])[j]? := congrArg (fun l => l[j]?) (lines_data h)
  rw [List.getElem?_eq_getElem (by omega), List.getElem?_append_left (by simpa using h2)] at h1
  simp only [List.getElem?_map, List.getElem?_eq_getElem h2, Option.map_some] at h1
  exact Option.some.inj h1

/-! ### What has been read so far -/
/-- xs are the first entries, whatever the text's entries are. -/
def PcInv (s : ByteArray) (j : Nat) (xs : List En) : Prop := ∀ es, PcIs s es → xs = es.take j
theorem PcInv.zero (s : ByteArray) : PcInv s 0 [] := fun _ _ => rfl
def NoPc (s : ByteArray) : Prop := ∀ es, ¬ PcIs s es
section
variable {s : ByteArray} {j : Nat} {xs : List En}
theorem PcInv.skip (h : PcInv s j xs) (hp : j < (pcsB s).length) (h0 : (pcsB s)[j].data.toList = []) : PcInv s (j + 1) xs := by
  intro es he
  have hn : es.length ≤ j := by
    rcases Nat.lt_or_ge j es.length with h1 | h1
    · have := pcs_at he h1 hp
      rw [h0] at this
      simp at this
    · exact h1
  rw [h es he, List.take_of_length_le hn, List.take_of_length_le (by omega)]
theorem PcInv.room {es : List En} (he : PcIs s es) (hp : j < (pcsB s).length) (h0 : (pcsB s)[j].data.toList ≠ []) : j < es.length := by
  rcases Nat.lt_or_ge j es.length with h1 | h1
  · exact h1
  · exact absurd (pcs_end he h1 hp) h0
theorem PcInv.full (h : PcInv s j xs) (hp : j < (pcsB s).length) (h0 : (pcsB s)[j].data.toList ≠ []) (h12 : xs.length = 12) : NoPc s := by
  intro es he
  have h1 := PcInv.room he hp h0
  have h2 := congrArg List.length (h es he)
  rw [List.length_take] at h2
  have := pcIs_len he
  omega
theorem PcInv.bad (hp : j < (pcsB s).length) (h0 : (pcsB s)[j].data.toList ≠ []) (hc : clI (pcsB s)[j].data.toList = none) : NoPc s := by
  intro es he
  have h1 := PcInv.room he hp h0
  rw [pcs_at he h1 hp, clI_ent (pcIs_ok he h1)] at hc
  cases hc
theorem PcInv.next (h : PcInv s j xs) (hp : j < (pcsB s).length) (h0 : (pcsB s)[j].data.toList ≠ []) {e : En} (hc : clI (pcsB s)[j].data.toList = some e) : PcInv s (j + 1) (xs ++ [e]) := by
  intro es he
  have h1 := PcInv.room he hp h0
  rw [pcs_at he h1 hp, clI_ent (pcIs_ok he h1)] at hc
  injection hc with hc
  rw [h es he, ← hc, List.take_succ_eq_append_getElem h1]
theorem PcInv.done (h : PcInv s j xs) (hj : j = (pcsB s).length) {es : List En} (he : PcIs s es) : xs = es := by
  have := pcs_len he
  rw [h es he, List.take_of_length_le (by omega)]
theorem PcInv.badS (hp : j + 1 < (spl 10 s.data.toList).length) (hc : clS (spl 10 s.data.toList)[j] = none) : NoPc s := by
  intro es he
  obtain ⟨h1, h2⟩ := lines_at he hp
  rw [h2, clS_ent (pcIs_ok he h1)] at hc
  cases hc
theorem PcInv.nextS (h : PcInv s j xs) (hp : j + 1 < (spl 10 s.data.toList).length) {e : En} (hc : clS (spl 10 s.data.toList)[j] = some e) : PcInv s (j + 1) (xs ++ [e]) := by
  intro es he
  obtain ⟨h1, h2⟩ := lines_at he hp
  rw [h2, clS_ent (pcIs_ok he h1)] at hc
  injection hc with hc
  rw [h es he, ← hc, List.take_succ_eq_append_getElem h1]
theorem PcInv.doneS (h : PcInv s j xs) (hj : j + 1 = (spl 10 s.data.toList).length) {es : List En} (he : PcIs s es) : xs = es := by
  have := lines_len he
  rw [h es he, List.take_of_length_le (by omega)]
theorem pc_many (h : 13 < (spl 10 s.data.toList).length) : NoPc s := by
  intro es he
  have := lines_len he
  have := pcIs_len he
  omega
end

/-- What both hand back. -/
noncomputable def pkV (s : ByteArray) : List En × Bool := @dite _ (∃ es, PcIs s es) (Classical.propDecidable _) (fun h => (Classical.choose h, true)) (fun _ => ([], false))
theorem pcIs_inj {s : ByteArray} {es fs : List En} (h : PcIs s es) (k : PcIs s fs) : es = fs := by
  have h1 := lines_data h
  rw [lines_data k] at h1
  have h2 := (List.append_cancel_right h1).symm
  have h3 : ∀ gs : List En, PcIs s gs → (gs.map entD).map clS = gs.map some := by
    intro gs hg
    apply List.ext_getElem
    · simp
    · intro i h1 h2
      simp only [List.getElem_map]
      exact clS_ent (pcIs_ok hg (by simpa using h2))
  have h4 := congrArg (List.map clS) h2
  rw [h3 es h, h3 fs k] at h4
  exact (List.map_inj_right (fun a b e => by injection e)).1 h4
theorem pkV_some {s : ByteArray} {es : List En} (h : PcIs s es) : pkV s = (es, true) := by
  have hx : ∃ es, PcIs s es := ⟨es, h⟩
  unfold pkV
  rw [dif_pos hx, pcIs_inj (Classical.choose_spec hx) h]
theorem pkV_none {s : ByteArray} (h : NoPc s) : pkV s = ([], false) := by
  unfold pkV
  rw [dif_neg]
  rintro ⟨es, he⟩
  exact h es he
end
section
open Go Go.RowKit

theorem okCat_mk {es : List En} (h1 : ∀ x ∈ es, entE x = true) (h2 : es.Pairwise (fun x y => cmpE x y < 0)) : okCat es := by
  intro k hk
  rw [okAtE, getE_is hk, h1 _ (List.getElem_mem hk), Bool.true_and]
  rcases Nat.eq_zero_or_pos k with h0 | h0
  · subst h0; rfl
  · have h3 := List.pairwise_iff_getElem.1 h2 (k - 1) k (by omega) hk (by omega)
    rw [getE_is (show k - 1 < es.length by omega), decide_eq_true h3, Bool.or_true]
theorem catB_mk9 {es : List En} (h1 : es.length ≤ 12) (h2 : okCat es) : catB es = true := by
  unfold catB
  rw [decide_eq_true h1, Bool.true_and, List.all_eq_true]
  intro k hk
  exact h2 k (List.mem_range.1 hk)
theorem cut_parts {es : List En} {k : Nat} (hk : k < es.length) : es = es.take k ++ es[k] :: es.drop (k + 1) := by
  rw [← List.drop_eq_getElem_cons hk, List.take_append_drop]
theorem cut_law {l : List En} {a b : Int} {d : List En} (h : dropG l a b = (d, true)) :
    ∃ f, findV l a b = (f, true) ∧ f.a = a ∧ f.b = b ∧ d.length + 1 = l.length ∧ tightG d f = (l, true) ∧ (findV d a b).2 = false ∧ catB l = true := by
  have h9 := h
  unfold dropG at h
  split at h
  case isFalse => cases h
  case isTrue hc =>
    simp only [Bool.and_eq_true, decide_eq_true_eq] at hc
    obtain ⟨hcat, hlt⟩ := hc
    injection h with h _
    have hok := cat_good hcat
    have hle := (cat_ok hcat).1
    generalize hk : firstN l a b = k at *
    obtain ⟨hfa, hfb⟩ : (enS.get l k).a = a ∧ (enS.get l k).b = b := by
      have h4 := (lead_spec (fun k => !isCu l a b k) l.length 0).2.2.2
      have h5 : firstN l a b = lead (fun k => !isCu l a b k) l.length 0 := rfl
      rw [← h5, hk] at h4
      have h6 := h4 (by omega)
      exact isCu_iff.1 (by simpa using h6)
    have hget := getE_is hlt
    have hpw := okCat_pw hok
    have hparts := cut_parts hlt
    have hd : d = l.take k ++ l.drop (k + 1) := h.symm
    have hpw2 : (l.take k ++ l[k] :: l.drop (k + 1)).Pairwise (fun x y => cmpE x y < 0) := by rw [← hparts]; exact hpw
    obtain ⟨p1, p2, p3⟩ := List.pairwise_append.1 hpw2
    obtain ⟨p4, p5⟩ := List.pairwise_cons.1 p2
    have hdpw : d.Pairwise (fun x y => cmpE x y < 0) := by
      rw [hd]
      exact List.pairwise_append.2 ⟨p1, p5, fun x hx y hy => p3 x hx y (List.mem_cons_of_mem _ hy)⟩
    have hmem : ∀ u, u ∈ l ↔ u ∈ d ∨ u = l[k] := by
      intro u
      have h1 : u ∈ l ↔ u ∈ l.take k ++ l[k] :: l.drop (k + 1) := by rw [← hparts]
      rw [h1, hd]
      clear h1
      simp only [List.mem_append, List.mem_cons]
      constructor
      · rintro (h1 | h1 | h1)
        · exact Or.inl (Or.inl h1)
        · exact Or.inr h1
        · exact Or.inl (Or.inr h1)
      · rintro ((h1 | h1) | h1)
        · exact Or.inl h1
        · exact Or.inr (Or.inr h1)
        · exact Or.inr (Or.inl h1)
    have hne : ∀ u ∈ d, cmpE u l[k] < 0 ∨ cmpE l[k] u < 0 := by
      intro u hu
      rw [hd] at hu
      rcases List.mem_append.1 hu with h1 | h1
      · exact Or.inl (p3 u h1 _ List.mem_cons_self)
      · exact Or.inr (p4 u h1)
    have hdok : okCat d := okCat_mk (fun x hx => okCat_mem hok ((hmem x).2 (Or.inl hx))) hdpw
    have hlen : d.length + 1 = l.length := by rw [hd]; simp; omega
    have hdcat : catB d = true := catB_mk9 (by omega) hdok
    have hent : entE l[k] = true := okCat_mem hok (List.getElem_mem hlt)
    have hns : ∀ u ∈ d, ¬ sm u l[k] := by
      intro u hu hs
      rcases hne u hu with h1 | h1
      · exact cmpE_irr _ ((sm_cmp hs).1.1 h1)
      · exact cmpE_irr _ ((sm_cmp hs).2.1 h1)
    refine ⟨l[k], by rw [findV_yes hcat (by rw [hk]; exact hlt), hk, hget], by rw [← hget]; exact hfa, by rw [← hget]; exact hfb, hlen, ?_, ?_, hcat⟩
    · unfold tightG
      rw [hdcat, hent]
      simp only [Bool.and_self, if_true]
      rw [mergeV_one]
      cases ht : tightO d l[k] with
      | none =>
        obtain ⟨x, hx, hs, -⟩ := (tight_none hdok).1 ht
        exact absurd hs (hns x hx)
      | some z =>
        have hz : z = l := by
          refine cat_ext (tight_ok hdok hent ht) hok (fun u => ?_)
          rw [tight_mem hdok ht u, hmem u]
          constructor
          · rintro (⟨h1, -⟩ | ⟨x, hx, hs, -⟩ | ⟨-, h1⟩)
            · exact Or.inl h1
            · exact absurd hs (hns x hx)
            · exact Or.inr h1
          · rintro (h1 | h1)
            · exact Or.inl ⟨h1, hns u h1⟩
            · exact Or.inr (Or.inr ⟨hns, h1⟩)
        subst hz
        simp only []
        rw [if_pos hle]
    · unfold findV
      rw [hdcat, Bool.true_and]
      split
      · rename_i h1
        have h1 := of_decide_eq_true h1
        have h4 := (lead_spec (fun k => !isCu d a b k) d.length 0).2.2.2
        have h5 : firstN d a b = lead (fun k => !isCu d a b k) d.length 0 := rfl
        rw [← h5] at h4
        have h6 := isCu_iff.1 (by simpa using h4 (by omega))
        rw [getE_is h1] at h6
        rw [hget] at hfa hfb
        exact absurd (show sm d[firstN d a b] l[k] from ⟨h6.1.trans hfa.symm, h6.2.trans hfb.symm⟩) (hns _ (List.getElem_mem h1))
      · rfl
theorem drop_find {l : List En} {a b : Int} : (dropG l a b).2 = (findV l a b).2 := by
  unfold dropG findV
  split <;> rfl
/-- How many of the first k are exact. -/
def exN (es : List En) : Nat → Int
  | 0 => 0
  | k + 1 => if (enS.get es k).lo = (enS.get es k).hi then exN es k + 1 else exN es k
theorem exN_bd (es : List En) : ∀ k, 0 ≤ exN es k ∧ exN es k ≤ k
  | 0 => ⟨Int.le_refl _, Int.le_refl _⟩
  | k + 1 => by
    have := exN_bd es k
    unfold exN
    split <;> omega
theorem sum_set (l : List Int) : ∀ (i : Nat), i < l.length → (l.set i (l.getD i 0 + 1)).sum = l.sum + 1 := by
  induction l with
  | nil => intro i hi; simp at hi
  | cons x l ih =>
    intro i hi
    cases i with
    | zero => simp; omega
    | succ i =>
      have := ih i (by simpa using hi)
      simp only [List.set_cons_succ, List.sum_cons, List.getD_cons_succ] at this ⊢
      omega
theorem rk_sum {es : List En} (h : okCat es) : ∀ k, k ≤ es.length → (rkN es k).sum = exN es k
  | 0, _ => by
    show (List.replicate 21 (0 : Int)).sum = 0
    decide
  | k + 1, hk => by
    have ih := rk_sum h k (by omega)
    have hb := okAt_bd (h k (by omega))
    show (rkStep (rkN es k) (enS.get es k)).sum = _
    unfold rkStep exN
    split
    · rw [sum_set _ _ (by rw [rk_len]; omega), ih]
    · exact ih
/-- The sum of the first k. -/
def sumN (l : List Int) (k : Nat) : Int := (l.take k).sum
theorem sumN_succ {l : List Int} {k : Nat} (hk : k < l.length) : sumN l (k + 1) = sumN l k + l[k] := by
  unfold sumN
  rw [List.take_succ_eq_append_getElem hk, List.sum_append]
  simp
theorem sumN_all (l : List Int) : sumN l l.length = l.sum := by unfold sumN; rw [List.take_length]
theorem best_wide {es : List En} : ∀ k, ∀ j, j < k → (enS.get es j).hi - (enS.get es j).lo ≤ (bestAt es k).hi - (bestAt es k).lo
  | 0, j, hj => by omega
  | k + 1, j, hj => by
    have ih := best_wide (es := es) k
    unfold bestAt
    rcases Nat.lt_or_ge j k with h | h
    · have := ih j h
      split <;> omega
    · obtain rfl : j = k := by omega
      split <;> omega
theorem wid_law {es : List En} (h : catB es = true) : (0 < es.length → widV es = (bestAt es es.length, true)) ∧ (es.length = 0 → widV es = (⟨0, 0, 0, 0, 0⟩, false)) := by
  unfold widV
  rw [h, Bool.true_and]
  constructor
  · intro h0; rw [decide_eq_true h0]; rfl
  · intro h0; rw [h0]; rfl
theorem text_back {es : List En} (h : catB es = true) : pkV (catT es es.length) = (es, true) := pkV_some ⟨h, rfl⟩
end
section
open Go Go.RowKit
theorem take_get {E : Type} {S : Shape E} {es : List E} {k : Nat} (h : k < es.length) : es.take (k + 1) = es.take k ++ [S.get es k] := by
  rw [List.take_succ_eq_append_getElem h]
  unfold Shape.get
  rw [List.getD_eq_getElem?_getD, List.getElem?_eq_getElem h]; rfl
set_option maxRecDepth 8000 in
theorem neqEn (x y : En) (W : World) : (binOp .neq 29 (.agg #[.int .i64 x.a, .int .i64 x.b, .int .i64 x.lo, .int .i64 x.hi, .int .i64 x.«to»]) (.agg #[.int .i64 y.a, .int .i64 y.b, .int .i64 y.lo, .int .i64 y.hi, .int .i64 y.«to»])).run Tryz.prog W = .ok (.bool (!decide (x = y))) W := by
  obtain ⟨a0, a1, a2, a3, a4⟩ := x
  obtain ⟨b0, b1, b2, b3, b4⟩ := y
  by_cases h0 : a0 = b0
  · by_cases h1 : a1 = b1
    · by_cases h2 : a2 = b2
      · by_cases h3 : a3 = b3
        · by_cases h4 : a4 = b4
          · simp [go_sem, h0, h1, h2, h3, h4]
          · simp [go_sem, h0, h1, h2, h3, h4]
        · simp [go_sem, h0, h1, h2, h3]
      · simp [go_sem, h0, h1, h2]
    · simp [go_sem, h0, h1]
  · simp [go_sem, h0]
set_option maxRecDepth 8000 in
set_option maxHeartbeats 4000000 in
theorem qEn_any (u v : Value) (es fs : List En) (w : World) (hu : Rd enS w w.heap.size u es) (hv : Rd enS w w.heap.size v fs) :
    Calls Tryz.prog 22 #[u, v] w fun r w' => r = .returned (.bool (decide (es = fs))) ∧ Below w.heap.size w w' := by
  obtain ⟨A, c, rfl, hc, hm, hA⟩ := hu
  obtain ⟨A', c', rfl, hc', hm', hA'⟩ := hv
  unfold maxLen at hm hm'
  by_cases hlen : es.length = fs.length
  · have hne : ((es.length : Int) != (fs.length : Int)) = false := by simp [hlen]
    rcases Nat.eq_zero_or_pos es.length with h0 | h0
    · obtain rfl : es = [] := List.eq_nil_of_length_eq_zero h0
      obtain rfl : fs = [] := List.eq_nil_of_length_eq_zero (by rw [← hlen]; exact h0)
      clear hA hA' hlen hne
      go_enter Tryz.func22, Tryz.ntmps22
      go_wp2
      refine wp_loop_rounds 1 ?_
      rw [rounds_succ]
      go_wp2
      go_ret
      exact ⟨rfl, by (repeat (with_reducible first | exact Below.refl _ _ | assumption | refine bal ?_ _ | refine bst ?_ (by simp <;> omega) _ | refine Below.drew ?_ | refine bthen ?_ (by assumption)))⟩
    · obtain ⟨g, off, rfl, hg, hcell⟩ := hA h0
      obtain ⟨g', off', rfl, hg', hcell'⟩ := hA' (by omega)
      clear hA hA'
      have hcell := en_cells hcell
      have hcell' := en_cells hcell'
      rw [← hlen] at hcell' hc'
      have Hlen := Lib.hid hlen
      rw [← hlen]
      clear hlen hne
      go_enter Tryz.func22, Tryz.ntmps22
      go_wp2
      go_loopw [13] (fun i wr => ∃ k : Nat, k ≤ es.length ∧ i = .int .i64 k ∧ Hid (es.take k = fs.take k) ∧ Below w.heap.size w wr) (fun i _ => es.length - (intOf i).toNat)
      case atStart => exact ⟨0, Nat.zero_le _, rfl, Lib.hid (by simp), Below.refl _ _⟩
      case round =>
        obtain ⟨k, hk, rfl, Heq, hb⟩ := hrel
        by_cases hlt : k < es.length
        · obtain ⟨f0, f1, f2, f3, f4⟩ := hcell k hlt
          obtain ⟨p0, p1, p2, p3, p4⟩ := hcell' k hlt
          rw [← hb.cell (p := ⟨_, _, _⟩) hg] at f0 f1 f2 f3 f4
          rw [← hb.cell (p := ⟨_, _, _⟩) hg'] at p0 p1 p2 p3 p4
          obtain ⟨x, hx⟩ : ∃ e, enS.get es k = e := ⟨_, rfl⟩
          obtain ⟨y, hy⟩ : ∃ e, enS.get fs k = e := ⟨_, rfl⟩
          rw [hx] at f0 f1 f2 f3 f4
          rw [hy] at p0 p1 p2 p3 p4
          have Hx := Lib.hid hx; have Hy := Lib.hid hy
          have hgr : g < wr.heap.size := Nat.lt_of_lt_of_le hg hb.size
          have hgr' : g' < wr.heap.size := Nat.lt_of_lt_of_le hg' hb.size
          have hi0 : (0 : Int) ≤ (k : Int) := by omega
          have hi1 : (k : Int) < (es.length : Int) := by omega
          have hql := neqEn x y
          clear hcell hcell' hx hy
          by_cases hd : x = y
          · have hql2 : ∀ W, (binOp .neq 29 (.agg #[.int .i64 x.a, .int .i64 x.b, .int .i64 x.lo, .int .i64 x.hi, .int .i64 x.«to»]) (.agg #[.int .i64 y.a, .int .i64 y.b, .int .i64 y.lo, .int .i64 y.hi, .int .i64 y.«to»])).run Tryz.prog W = .ok (.bool false) W := fun W => by rw [hql W, decide_eq_true hd]; rfl
            have Hnext := Lib.hid (show es.take (k + 1) = fs.take (k + 1) by rw [take_get (S := enS) hlt, take_get (S := enS) (by have := Hlen.out; omega), Heq.out, Hx.out, Hy.out, hd])
            clear hql hd
            go_wp2
            refine wp_region_tame (by kernel_rfl) (by kernel_rfl) (fun T _ W hT => ?_)
            have hz := hT.cell
            repeat (go_big_quiet_step (fail))
            refine wpQuiet_nil ?_
            intro t
            clear hz
            go_wp2
            go_roundw
            case rel => exact ⟨k + 1, by omega, by go_num, Hnext, bthen hb (hT.below t)⟩
            case measure => simp [intOf]; omega
          · have hql2 : ∀ W, (binOp .neq 29 (.agg #[.int .i64 x.a, .int .i64 x.b, .int .i64 x.lo, .int .i64 x.hi, .int .i64 x.«to»]) (.agg #[.int .i64 y.a, .int .i64 y.b, .int .i64 y.lo, .int .i64 y.hi, .int .i64 y.«to»])).run Tryz.prog W = .ok (.bool true) W := fun W => by rw [hql W, decide_eq_false hd]; rfl
            have Hno := Lib.hid (show decide (es = fs) = false from decide_eq_false (fun e => hd (by rw [← Hx.out, ← Hy.out, e])))
            clear hql hd
            go_wp2
            refine wp_region_tame (by kernel_rfl) (by kernel_rfl) (fun T _ W hT => ?_)
            have hz := hT.cell
            repeat (go_big_quiet_step (fail))
            refine wpQuiet_nil ?_
            intro t
            clear hz
            go_wp2
            go_ret
            exact ⟨ret_bool Hno.out.symm, bthen hb (hT.below t)⟩
        · obtain rfl : k = es.length := by omega
          have Hyes := Lib.hid (show decide (es = fs) = true from decide_eq_true (by have h := Heq.out; rw [List.take_length, Hlen.out, List.take_length] at h; exact h))
          clear hcell hcell'
          go_wp2
          go_ret
          exact ⟨ret_bool Hyes.out.symm, hb⟩
  · have hne : ((es.length : Int) != (fs.length : Int)) = true := by simp; omega
    have Hno := Lib.hid (show decide (es = fs) = false from decide_eq_false (fun e => hlen (by rw [e])))
    clear hA hA'
    have Hlen := Lib.hid hlen; clear hlen
    go_enter Tryz.func22, Tryz.ntmps22
    go_wp2
    go_ret
    exact ⟨ret_bool Hno.out.symm, by (repeat (with_reducible first | exact Below.refl _ _ | assumption | refine bal ?_ _ | refine bst ?_ (by simp <;> omega) _ | refine Below.drew ?_ | refine bthen ?_ (by assumption)))⟩
set_option maxRecDepth 8000 in
theorem neqCu (x y : Cu) (W : World) : (binOp .neq 25 (.agg #[.int .i64 x.a, .int .i64 x.b]) (.agg #[.int .i64 y.a, .int .i64 y.b])).run Tryz.prog W = .ok (.bool (!decide (x = y))) W := by
  obtain ⟨a0, a1⟩ := x
  obtain ⟨b0, b1⟩ := y
  by_cases h0 : a0 = b0
  · by_cases h1 : a1 = b1
    · simp [go_sem, h0, h1]
    · simp [go_sem, h0, h1]
  · simp [go_sem, h0]
end
section
open Go Go.RowKit

set_option maxHeartbeats 1000000 in
theorem qIn_same (u v : Value) (es : List Int) (w : World) (hu : Rd inS w w.heap.size u es) (hv : Rd inS w w.heap.size v es) :
    Calls Tryz.prog 23 #[u, v] w fun e w' => e = .returned (.bool true) ∧ Below w.heap.size w w' := by
  obtain ⟨A, c, rfl, hc, hm, hA⟩ := hu
  obtain ⟨A', c', rfl, hc', hm', hA'⟩ := hv
  unfold maxLen at hm hm'
  rcases Nat.eq_zero_or_pos es.length with h0 | h0
  · obtain rfl : es = [] := List.eq_nil_of_length_eq_zero h0
    go_enter Tryz.func23, Tryz.ntmps23
    go_wp2
    refine wp_loop_rounds 1 ?_
    rw [rounds_succ]
    go_wp2
    go_ret
    exact ⟨rfl, Below.refl _ _⟩
  · obtain ⟨g, off, rfl, hg, hcell⟩ := hA h0
    obtain ⟨g', off', rfl, hg', hcell'⟩ := hA' h0
    clear hA hA'
    have hcell := in_cells hcell
    have hcell' := in_cells hcell'
    go_enter Tryz.func23, Tryz.ntmps23
    go_wp2
    go_loopw [13] (fun i wr => ∃ k : Nat, k ≤ es.length ∧ i = .int .i64 k ∧ Below w.heap.size w wr) (fun i _ => es.length - (intOf i).toNat)
    case atStart => exact ⟨0, Nat.zero_le _, rfl, Below.refl _ _⟩
    case round =>
      obtain ⟨k, hk, rfl, hb⟩ := hrel
      by_cases hlt : k < es.length
      · have f0 := hcell k hlt
        have p0 := hcell' k hlt
        rw [← hb.cell (p := ⟨_, _, _⟩) hg] at f0
        rw [← hb.cell (p := ⟨_, _, _⟩) hg'] at p0
        obtain ⟨x, hx⟩ : ∃ e, inS.get es k = e := ⟨_, rfl⟩
        rw [hx] at f0 p0
        have hgr : g < wr.heap.size := Nat.lt_of_lt_of_le hg hb.size
        have hgr' : g' < wr.heap.size := Nat.lt_of_lt_of_le hg' hb.size
        have hi0 : (0 : Int) ≤ (k : Int) := by omega
        have hi1 : (k : Int) < (es.length : Int) := by omega
        clear hcell hcell' hx
        go_wp2
        refine wp_region_tame (by kernel_rfl) (by kernel_rfl) (fun T _ W hT => ?_)
        have hy := hT.cell
        repeat (go_big_quiet_step (fail))
        refine wpQuiet_nil ?_
        intro t
        clear hy
        go_wp2
        go_roundw
        case rel => exact ⟨k + 1, by omega, by go_num, bthen hb (hT.below t)⟩
        case measure => simp [intOf]; omega
      · go_wp2
        go_ret
        exact ⟨rfl, hb⟩
end
section
open Go Go.RowKit

theorem infoIntR : (Tryz.prog.info? 3).map (fun i => (i.zero, i.size, i.bytes)) = some (some (.int .i64 0), 1, 8) := by kernel_rfl
theorem splitB_size (sep : ByteArray) : ∀ (k : Nat) (s : ByteArray), ∀ x ∈ Lib.splitB sep 0 k s, x.size ≤ s.size
  | 0, s, x, h => by
    have : x = s := by simpa [Lib.splitB] using h
    rw [this]; exact Nat.le_refl _
  | k + 1, s, x, h => by
    unfold Lib.splitB at h
    split at h
    · have : x = s := by simpa using h
      rw [this]; exact Nat.le_refl _
    · rcases List.mem_cons.1 h with rfl | h
      · rw [ByteArray.size_extract]; omega
      · have := splitB_size sep k _ x h
        rw [ByteArray.size_extract] at this
        omega
theorem jrW_size {line : ByteArray} {j : Nat} (h : j < (jrW line).length) : (jrW line)[j].size ≤ line.size :=
  Nat.le_trans (splitB_size _ _ _ _ (List.getElem_mem h)) (jrT_size line)
theorem own_form {w : World} {b : Nat} {t : TypeId} {z : Nat} {v : Value} {n : Nat} {xs : List Value} (h : w.ownsRow b t z v n xs) : ∃ A c, v = .slice A n c := by
  rcases h.2 with ⟨h', h0⟩ | ⟨g', cap', cur, h', _⟩
  · exact ⟨none, 0, by rw [h', h0]⟩
  · exact ⟨_, _, h'⟩
theorem bytes_inj {a b : ByteArray} (h : a.toList = b.toList) : a = b := by
  rw [ByteArray.toList_eq, ByteArray.toList_eq] at h
  obtain ⟨⟨a⟩⟩ := a; obtain ⟨⟨b⟩⟩ := b
  exact congrArg (fun l => ByteArray.mk ⟨l⟩) h
def cv (w : World) (a : Addr) : Value := (w.cell? a).getD (.int .i64 0)
structure HasC (w : World) (g : Nat) : Prop where
  h : ∃ a b c d : Value, Blk w g 78 #[a, b, c, d]
theorem HasC.drew {w : World} {g : Nat} (h : HasC w g) : HasC w.drew g := ⟨h.h⟩
theorem HasC.on {w w' : World} {g : Nat} (h : HasC w g) (hb : Below w.heap.size w w') : HasC w' g := let ⟨a, b, c, d, k⟩ := h.h; ⟨a, b, c, d, k.on hb⟩
theorem HasC.st {w : World} {g : Nat} (h : HasC w g) (v0 v1 v2 v3 : Value) : HasC ((((w.setCell ⟨g, 0, none⟩ v0).setCell ⟨g, 1, none⟩ v1).setCell ⟨g, 2, none⟩ v2).setCell ⟨g, 3, none⟩ v3) g := let ⟨_, _, _, _, k⟩ := h.h; ⟨v0, v1, v2, v3, k.set4⟩
theorem HasC.cv {w : World} {g : Nat} (h : HasC w g) (j : Nat) (hj : j < 4) : w.cell? ⟨g, j, none⟩ = some (cv w ⟨g, j, none⟩) := by
  obtain ⟨a, b, c, d, k⟩ := h.h
  unfold Proofs.YtimfoodbolokdaaGreatDoor.cv
  rw [k.cell j]
  match j, hj with
  | 0, _ => rfl
  | 1, _ => rfl
  | 2, _ => rfl
  | 3, _ => rfl
theorem HasC.fr {w : World} {g : Nat} (h : HasC w g) : w.frozen? ⟨g, 0, none⟩ = false := let ⟨_, _, _, _, k⟩ := h.h; k.frozen 0
theorem list5r {xs : List Int} (h : xs.length = 5) : ∃ a b c d e, xs = [a, b, c, d, e] := by
  match xs, h with
  | [a, b, c, d, e], _ => exact ⟨a, b, c, d, e, rfl⟩
theorem RdP.no {k : Int} {line : ByteArray} (h : ∀ a b lo hi : Int, recB a b lo hi = true → lineS k a b lo hi ≠ line) (a b lo hi : Int) : RdP k line (.returned (.tuple #[.agg #[.int .i64 a, .int .i64 b, .int .i64 lo, .int .i64 hi], .bool false])) := Or.inr ⟨h, a, b, lo, hi, rfl⟩
theorem RdP.yes {k : Int} {line : ByteArray} {a b lo hi : Int} (h : recB a b lo hi = true) (hl : lineS k a b lo hi = line) : RdP k line (.returned (.tuple #[.agg #[.int .i64 a, .int .i64 b, .int .i64 lo, .int .i64 hi], .bool true])) := Or.inl ⟨a, b, lo, hi, h, hl, rfl⟩
set_option linter.unusedSimpArgs false in
set_option maxRecDepth 8000 in
set_option maxHeartbeats 4000000 in
theorem readRecord_any (k : Int) (line : ByteArray) (w : World) (hk : 0 ≤ k ∧ k ≤ 29) (hs : line.size ≤ 2000000) (h : Env w) :
    Calls Tryz.prog 204 #[.int .i64 k, .string line] w fun e w' => RdP k line e ∧ Below w.heap.size w w' := by
  obtain ⟨i0, hi, hz0, hz1, hz2⟩ := info_parts infoIntR
  have Hn5 := Lib.hid (fun hn => not_rec_len (k := k) (line := line) hk hn)
  have Hnw := Lib.hid (fun j hj hn => not_rec_word (k := k) (line := line) (j := j) hk hj hn)
  have Hnv := Lib.hid (fun x0 a b lo hi hw hn => not_rec_vals (k := k) (line := line) (x0 := x0) (a := a) (b := b) (lo := lo) (hi := hi) hk hw hn)
  have hwl : (jrW line).length ≤ 2000001 := by
    rw [jrW_length]
    have := Lib.countB_le ⟨#[32]⟩ (by decide) _ (jrT line) (Nat.le_refl _)
    have := jrT_size line
    omega
  have HR := Lib.hid (Blk.new w 78 #[.int .i64 0, .int .i64 0, .int .i64 0, .int .i64 0])
  have hA := bal (Below.refl w.heap.size w) (Obj.cells #[.int .i64 0, .int .i64 0, .int .i64 0, .int .i64 0] 78)
  have He := Lib.hid (h.on hA)
  have HbA := Lib.hid hA
  have Ht0 := Lib.hid (fun W (hW : Below w.heap.size w W) => (h.on hW).tab)
  clear h hA
  go_enter Tryz.func204, Tryz.ntmps204
  go_wp2_with fail
  refine (cut_any line _ (by omega) He.out).mono ?_; rintro e w1 ⟨⟨u, bb, rfl⟩, hb1⟩
  have HR1 := Lib.hid (HR.out.on hb1); have He1 := Lib.hid (He.out.on hb1); have Hb1 := Lib.hid (bthen HbA.out hb1); clear hb1
  go_wp2_with fail
  refine (split_any line _ (by omega) He1.out).mono ?_; rintro e w2 ⟨rfl, hB2, hb2⟩
  have HW2 := Lib.hid hB2; have HR2 := Lib.hid (HR1.out.on hb2); have He2 := Lib.hid (He1.out.on hb2); have Hb2 := Lib.hid (bthen Hb1.out hb2); clear hb2 hB2
  obtain ⟨gw, hgw⟩ : ∃ g, w1.heap.size = g := ⟨_, rfl⟩
  rw [hgw] at HW2 ⊢
  clear hgw
  go_wp2
  go_loopw [24, 9] (fun i o wr => ∃ (j : Nat) (xs : List Int), j ≤ (jrW line).length ∧ i = .int .i64 j ∧ xs.length = j ∧ Hid (okNums ((jrW line).take j) xs) ∧ Below w2.heap.size w2 wr ∧ Hid (wr.ownsRow w2.heap.size 3 1 o xs.length (xs.map (Value.int .i64)))) (fun i _ _ => (jrW line).length - (intOf i).toNat)
  case atStart => exact ⟨0, [], Nat.zero_le _, rfl, rfl, Lib.hid rfl, Below.refl _ _, Lib.hid ⟨rfl, Or.inl ⟨rfl, rfl⟩⟩⟩
  case round =>
    obtain ⟨j, xs, hj, rfl, hxj, Hok, hb, Hown⟩ := hrel
    have HRr := Lib.hid (HR2.out.on hb)
    have HWr := Lib.hid (HW2.out.on hb)
    have Her := Lib.hid (He2.out.on hb)
    have Hbr := Lib.hid (bthen Hb2.out hb)
    by_cases hlt : j < (jrW line).length
    · have hlo := HWr.out.lt
      have f0 : wr.cell? ⟨gw, j, none⟩ = some (.string (jrW line)[j]) := by
        rw [HWr.out.cell j, List.getElem?_toArray, List.getElem?_map, List.getElem?_eq_getElem hlt]; rfl
      have Hsz := Lib.hid (Nat.le_trans (jrW_size hlt) hs)
      have Hnj := Lib.hid (Hnw.out j hlt)
      have Hsn := Lib.hid (fun v hv => okNums_snoc (v := v) Hok.out hlt hv)
      generalize (jrW line)[j] = s at f0 Hsz Hnj Hsn
      have hi0 : (0 : Int) ≤ (j : Int) := by omega
      have hi1 : (j : Int) < ((jrW line).length : Int) := by omega
      go_wp2_with fail
      refine (atoi_any s _ (by have := Hsz.out; omega) Her.out).mono ?_; rintro e w3 ⟨hat, hb3⟩
      have Hown3 := Lib.hid (own_below Hown.out hb3)
      have HR3 := Lib.hid (HRr.out.on hb3)
      have Hb23 := Lib.hid (bthen hb hb3)
      have Hb3 := Lib.hid (bthen Hbr.out hb3)
      clear f0 hlo hb3
      rcases hat with ⟨v, hv, v1, v2, rfl⟩ | ⟨hno, v, t, N, rfl⟩
      · have Hsv := Lib.hid (Hsn.out v hv)
        clear hv
        go_wp2_with (at_builtin; refine wpList_append_own _ rfl _ _ 34 rfl w2.heap.size 3 i0 (.int .i64 0) 1 8 Tryz.underlying34 hi hz0 hz1 hz2 rfl (by decide) _ _ _ rfl (Hown3.out.alloc _) ⟨w3.heap.size, 0, none⟩ 1 1 [.int .i64 v] rfl rfl ?c1 ?c2 ?c3 ?c4 ?c5 ?_)
        case c1 =>
          intro j u hj
          match j, hj with
          | 0, hj => simp at hj; subst hj; exact (Blk.new w3 _ _).cell 0
        case c2 => intro u hu; simp at hu; subst hu; rfl
        case c3 => unfold maxLen; omega
        case c4 => omega
        case c5 => have := Hb23.out.size; simp; omega
        intro v6 w6 hown6 hgrow _
        have Hb6 := Lib.hid (Below.grown (bal Hb23.out _) hgrow (by have := Hb23.out.size; simp; omega) (fun j hj => (Hown3.out.lt j hj).1))
        have Hown6 := Lib.hid (show w6.ownsRow w2.heap.size 3 1 v6 (xs ++ [v]).length ((xs ++ [v]).map (Value.int .i64)) by rw [List.map_append, List.length_append, hxj]; exact hown6)
        clear hown6 hgrow
        go_wp2
        go_roundw
        case rel => exact ⟨j + 1, xs ++ [v], by omega, by go_num, by rw [List.length_append, hxj]; rfl, Hsv, Hb6.out, Hown6⟩
        case measure => simp [intOf]; omega
      · have Hno := Lib.hid (RdP.no (Hnj.out hno) 0 0 0 0)
        clear hno
        have r0 := HR3.out.cell 0
        have r1 := HR3.out.cell 1
        have r2 := HR3.out.cell 2
        have r3 := HR3.out.cell 3
        have rl := HR3.out.lt
        have rf := HR3.out.frozen
        simp at r0 r1 r2 r3
        go_wp2
        clear r0 r1 r2 r3 rf
        have HR4 := Lib.hid (HR3.out.set4 (b0 := .int .i64 0) (b1 := .int .i64 0) (b2 := .int .i64 0) (b3 := .int .i64 0))
        have Hb4 := bst (bst (bst (bst Hb3.out (p := ⟨w.heap.size, 0, none⟩) (Nat.le_refl _) (.int .i64 0)) (p := ⟨w.heap.size, 1, none⟩) (Nat.le_refl _) (.int .i64 0)) (p := ⟨w.heap.size, 2, none⟩) (Nat.le_refl _) (.int .i64 0)) (p := ⟨w.heap.size, 3, none⟩) (Nat.le_refl _) (.int .i64 0)
        have r0 := HR4.out.cell 0
        have r1 := HR4.out.cell 1
        have r2 := HR4.out.cell 2
        have r3 := HR4.out.cell 3
        simp at r0 r1 r2 r3
        exact bodyPost_ret (v := .tuple #[.agg #[.int .i64 0, .int .i64 0, .int .i64 0, .int .i64 0], .bool false]) (by simp [results, Tryz.results204, go_sem, r0, r1, r2, r3]) rfl ⟨Hno.out, Hb4⟩
    · obtain rfl : j = (jrW line).length := by omega
      have Hok' := Lib.hid (show okNums (jrW line) xs by have := Hok.out; rwa [List.take_length] at this)
      clear Hok
      by_cases h5 : xs.length = 5
      · obtain ⟨x0, x1, x2, x3, x4, rfl⟩ := list5r h5
        clear h5
        obtain ⟨g2, cap, rfl, hbg, hlg⟩ := Hown.out.form (by simp)
        have c1 := Hown.out.cellAt 1 (by simp)
        have c2 := Hown.out.cellAt 2 (by simp)
        have c3 := Hown.out.cellAt 3 (by simp)
        have c4 := Hown.out.cellAt 4 (by simp)
        have hne : g2 ≠ w.heap.size := by have := HR2.out.lt; omega
        simp at c1 c2 c3 c4
        have Hxj := Lib.hid hxj; clear hxj
        have hcap : 5 ≤ cap := by
          rcases Hown.out.2 with ⟨h', _⟩ | ⟨g', cap', cur, h', hb', hg', hnc, -⟩
          · cases h'
          · cases h'; exact hnc
        have HS : Hid (∀ w', Below wr.heap.size wr w' → ((w'.cell? ⟨g2, 1, none⟩ = some (.int .i64 x1) ∧ w'.cell? ⟨g2, 2, none⟩ = some (.int .i64 x2) ∧ w'.cell? ⟨g2, 3, none⟩ = some (.int .i64 x3) ∧ w'.cell? ⟨g2, 4, none⟩ = some (.int .i64 x4)) ∧ Below wr.heap.size wr w')) := Lib.hid (fun w' hw => ⟨⟨(hw.cell (p := ⟨g2, 1, none⟩) hlg).trans c1, (hw.cell (p := ⟨g2, 2, none⟩) hlg).trans c2, (hw.cell (p := ⟨g2, 3, none⟩) hlg).trans c3, (hw.cell (p := ⟨g2, 4, none⟩) hlg).trans c4⟩, hw⟩)
        have hb0 := Below.refl wr.heap.size wr
        go_wp2
        go_region_held3 (fun w' => (w'.cell? ⟨g2, 1, none⟩ = some (.int .i64 x1) ∧ w'.cell? ⟨g2, 2, none⟩ = some (.int .i64 x2) ∧ w'.cell? ⟨g2, 3, none⟩ = some (.int .i64 x3) ∧ w'.cell? ⟨g2, 4, none⟩ = some (.int .i64 x4)) ∧ Below wr.heap.size wr w') (((go_split_ands; refine HS.out _ ?_; repeat (first | (with_reducible assumption) | (with_reducible exact Below.refl _ _) | (with_reducible refine Below.drew ?_) | (with_reducible refine bal ?_ _) | (with_reducible refine bst ?_ (by exact Nat.le_refl _) _) | (with_reducible refine bthen ?_ (by with_reducible assumption)))))) (fail)
        have Hrx := Lib.hid (fun hn => Hnv.out x0 x1 x2 x3 x4 Hok'.out hn)
        have Hne := Lib.hid (show wr.heap.size ≠ w.heap.size by have := HRr.out.lt; omega)
        have HB1 : Blk (World.drew (wr.alloc (Obj.cells #[.int .i64 x1, .int .i64 x2, .int .i64 x3, .int .i64 x4] 78))) wr.heap.size 78 #[.int .i64 x1, .int .i64 x2, .int .i64 x3, .int .i64 x4] := (Blk.new wr _ _).drew
        have HZ1 : Blk (World.drew (wr.alloc (Obj.cells #[.int .i64 x1, .int .i64 x2, .int .i64 x3, .int .i64 x4] 78))) w.heap.size 78 #[.int .i64 0, .int .i64 0, .int .i64 0, .int .i64 0] := ((HRr.out).alloc _).drew
        have HbZ : Below w.heap.size w (World.drew (wr.alloc (Obj.cells #[.int .i64 x1, .int .i64 x2, .int .i64 x3, .int .i64 x4] 78))) := Below.drew (bal Hbr.out _)
        clear HS hb0 c1 c2 c3 c4
        have g0 := HB1.cell 0
        have g1 := HB1.cell 1
        have g2' := HB1.cell 2
        have g3 := HB1.cell 3
        have y0 := HZ1.cell 0
        have y1 := HZ1.cell 1
        have y2 := HZ1.cell 2
        have y3 := HZ1.cell 3
        have yf := HZ1.frozen
        simp at g0 g1 g2' g3 y0 y1 y2 y3
        by_cases hrec : recB x1 x2 x3 x4 = true
        · have Hrc := Lib.hid (recB_bd hrec hk)
          by_cases hlin : lineS k x1 x2 x3 x4 = line
          · have Hyes := Lib.hid (RdP.yes hrec hlin)
            go_wp2
            go_region_with (first | (go_at_call 137; (with_reducible refine (isRecord_any x1 x2 x3 x4 _).mono ?_); rintro e wa ⟨rfl, hba⟩; have HB_wa : Blk wa wr.heap.size 78 #[.int .i64 x1, .int .i64 x2, .int .i64 x3, .int .i64 x4] := (by repeat (first | (with_reducible assumption) | (with_reducible refine Blk.drew ?_) | (with_reducible refine Blk.on ?_ (by with_reducible assumption)))); have HZ_wa : Blk wa w.heap.size 78 #[.int .i64 0, .int .i64 0, .int .i64 0, .int .i64 0] := (by repeat (first | (with_reducible assumption) | (with_reducible refine Blk.drew ?_) | (with_reducible refine Blk.on ?_ (by with_reducible assumption)))); have hb_wa : Below w.heap.size w wa := (by repeat (first | (with_reducible assumption) | (with_reducible refine Below.drew ?_) | (with_reducible refine bthen ?_ (by with_reducible assumption)))); have f_wa_0 := HB_wa.cell 0; have f_wa_1 := HB_wa.cell 1; have f_wa_2 := HB_wa.cell 2; have f_wa_3 := HB_wa.cell 3; have z_wa_0 := HZ_wa.cell 0; have z_wa_1 := HZ_wa.cell 1; have z_wa_2 := HZ_wa.cell 2; have z_wa_3 := HZ_wa.cell 3; have zf_wa := HZ_wa.frozen; have zl_wa := HZ_wa.lt; simp at f_wa_0 z_wa_0 f_wa_1 z_wa_1 f_wa_2 z_wa_2 f_wa_3 z_wa_3) | (go_at_call 138; (with_reducible refine (sealRecord_any k x1 x2 x3 x4 _ Hrc.out (Ht0.out _ (by repeat (first | (with_reducible assumption) | (with_reducible refine Below.drew ?_) | (with_reducible refine bthen ?_ (by with_reducible assumption)))))).mono ?_); rintro e wc ⟨rfl, hbc⟩; have HB_wc : Blk wc wr.heap.size 78 #[.int .i64 x1, .int .i64 x2, .int .i64 x3, .int .i64 x4] := (by repeat (first | (with_reducible assumption) | (with_reducible refine Blk.drew ?_) | (with_reducible refine Blk.on ?_ (by with_reducible assumption)))); have HZ_wc : Blk wc w.heap.size 78 #[.int .i64 0, .int .i64 0, .int .i64 0, .int .i64 0] := (by repeat (first | (with_reducible assumption) | (with_reducible refine Blk.drew ?_) | (with_reducible refine Blk.on ?_ (by with_reducible assumption)))); have hb_wc : Below w.heap.size w wc := (by repeat (first | (with_reducible assumption) | (with_reducible refine Below.drew ?_) | (with_reducible refine bthen ?_ (by with_reducible assumption)))); have f_wc_0 := HB_wc.cell 0; have f_wc_1 := HB_wc.cell 1; have f_wc_2 := HB_wc.cell 2; have f_wc_3 := HB_wc.cell 3; have z_wc_0 := HZ_wc.cell 0; have z_wc_1 := HZ_wc.cell 1; have z_wc_2 := HZ_wc.cell 2; have z_wc_3 := HZ_wc.cell 3; have zf_wc := HZ_wc.frozen; have zl_wc := HZ_wc.lt; simp at f_wc_0 z_wc_0 f_wc_1 z_wc_1 f_wc_2 z_wc_2 f_wc_3 z_wc_3))
            all_goals
              go_wp2
              have HR4 := HZ_wc.set4 (b0 := .int .i64 x1) (b1 := .int .i64 x2) (b2 := .int .i64 x3) (b3 := .int .i64 x4)
              have HR5 := HZ_wc.drew.set4 (b0 := .int .i64 x1) (b1 := .int .i64 x2) (b2 := .int .i64 x3) (b3 := .int .i64 x4)
              have r0 := HR4.cell 0
              have r1 := HR4.cell 1
              have r2 := HR4.cell 2
              have r3 := HR4.cell 3
              have s0 := HR5.cell 0
              have s1 := HR5.cell 1
              have s2 := HR5.cell 2
              have s3 := HR5.cell 3
              simp at r0 r1 r2 r3 s0 s1 s2 s3
              exact bodyPost_ret (v := .tuple #[.agg #[.int .i64 x1, .int .i64 x2, .int .i64 x3, .int .i64 x4], .bool true]) (by simp [results, Tryz.results204, go_sem, r0, r1, r2, r3, s0, s1, s2, s3]) rfl ⟨Hyes.out, by repeat (first | (with_reducible assumption) | (with_reducible refine bst ?_ (by exact Nat.le_refl _) _) | (with_reducible refine Below.drew ?_))⟩
          · have Hno := Lib.hid (RdP.no (Hrx.out (fun hh => hlin hh.2)) x1 x2 x3 x4)
            have hq : ((lineS k x1 x2 x3 x4).toList == line.toList) = false := beq_eq_false_iff_ne.2 (fun e => hlin (bytes_inj e))
            clear hlin
            go_wp2
            go_region_with (first | (go_at_call 137; (with_reducible refine (isRecord_any x1 x2 x3 x4 _).mono ?_); rintro e wa ⟨rfl, hba⟩; have HB_wa : Blk wa wr.heap.size 78 #[.int .i64 x1, .int .i64 x2, .int .i64 x3, .int .i64 x4] := (by repeat (first | (with_reducible assumption) | (with_reducible refine Blk.drew ?_) | (with_reducible refine Blk.on ?_ (by with_reducible assumption)))); have HZ_wa : Blk wa w.heap.size 78 #[.int .i64 0, .int .i64 0, .int .i64 0, .int .i64 0] := (by repeat (first | (with_reducible assumption) | (with_reducible refine Blk.drew ?_) | (with_reducible refine Blk.on ?_ (by with_reducible assumption)))); have hb_wa : Below w.heap.size w wa := (by repeat (first | (with_reducible assumption) | (with_reducible refine Below.drew ?_) | (with_reducible refine bthen ?_ (by with_reducible assumption)))); have f_wa_0 := HB_wa.cell 0; have f_wa_1 := HB_wa.cell 1; have f_wa_2 := HB_wa.cell 2; have f_wa_3 := HB_wa.cell 3; have z_wa_0 := HZ_wa.cell 0; have z_wa_1 := HZ_wa.cell 1; have z_wa_2 := HZ_wa.cell 2; have z_wa_3 := HZ_wa.cell 3; have zf_wa := HZ_wa.frozen; have zl_wa := HZ_wa.lt; simp at f_wa_0 z_wa_0 f_wa_1 z_wa_1 f_wa_2 z_wa_2 f_wa_3 z_wa_3) | (go_at_call 138; (with_reducible refine (sealRecord_any k x1 x2 x3 x4 _ Hrc.out (Ht0.out _ (by repeat (first | (with_reducible assumption) | (with_reducible refine Below.drew ?_) | (with_reducible refine bthen ?_ (by with_reducible assumption)))))).mono ?_); rintro e wc ⟨rfl, hbc⟩; have HB_wc : Blk wc wr.heap.size 78 #[.int .i64 x1, .int .i64 x2, .int .i64 x3, .int .i64 x4] := (by repeat (first | (with_reducible assumption) | (with_reducible refine Blk.drew ?_) | (with_reducible refine Blk.on ?_ (by with_reducible assumption)))); have HZ_wc : Blk wc w.heap.size 78 #[.int .i64 0, .int .i64 0, .int .i64 0, .int .i64 0] := (by repeat (first | (with_reducible assumption) | (with_reducible refine Blk.drew ?_) | (with_reducible refine Blk.on ?_ (by with_reducible assumption)))); have hb_wc : Below w.heap.size w wc := (by repeat (first | (with_reducible assumption) | (with_reducible refine Below.drew ?_) | (with_reducible refine bthen ?_ (by with_reducible assumption)))); have f_wc_0 := HB_wc.cell 0; have f_wc_1 := HB_wc.cell 1; have f_wc_2 := HB_wc.cell 2; have f_wc_3 := HB_wc.cell 3; have z_wc_0 := HZ_wc.cell 0; have z_wc_1 := HZ_wc.cell 1; have z_wc_2 := HZ_wc.cell 2; have z_wc_3 := HZ_wc.cell 3; have zf_wc := HZ_wc.frozen; have zl_wc := HZ_wc.lt; simp at f_wc_0 z_wc_0 f_wc_1 z_wc_1 f_wc_2 z_wc_2 f_wc_3 z_wc_3))
            all_goals
              go_wp2
              have HR4 := HZ_wc.set4 (b0 := .int .i64 x1) (b1 := .int .i64 x2) (b2 := .int .i64 x3) (b3 := .int .i64 x4)
              have HR5 := HZ_wc.drew.set4 (b0 := .int .i64 x1) (b1 := .int .i64 x2) (b2 := .int .i64 x3) (b3 := .int .i64 x4)
              have r0 := HR4.cell 0
              have r1 := HR4.cell 1
              have r2 := HR4.cell 2
              have r3 := HR4.cell 3
              have s0 := HR5.cell 0
              have s1 := HR5.cell 1
              have s2 := HR5.cell 2
              have s3 := HR5.cell 3
              simp at r0 r1 r2 r3 s0 s1 s2 s3
              exact bodyPost_ret (v := .tuple #[.agg #[.int .i64 x1, .int .i64 x2, .int .i64 x3, .int .i64 x4], .bool false]) (by simp [results, Tryz.results204, go_sem, r0, r1, r2, r3, s0, s1, s2, s3]) rfl ⟨Hno.out, by repeat (first | (with_reducible assumption) | (with_reducible refine bst ?_ (by exact Nat.le_refl _) _) | (with_reducible refine Below.drew ?_))⟩
        · have Hno := Lib.hid (RdP.no (Hrx.out (fun hh => hrec hh.1)) x1 x2 x3 x4)
          have hrf : recB x1 x2 x3 x4 = false := Bool.eq_false_iff.2 hrec
          have Hisf : Hid (∀ W, Calls Tryz.prog 137 #[.agg #[.int .i64 x1, .int .i64 x2, .int .i64 x3, .int .i64 x4]] W fun e w' => e = .returned (.bool false) ∧ Below W.heap.size W w') := Lib.hid (fun W => by have := isRecord_any x1 x2 x3 x4 W; rwa [hrf] at this)
          clear hrec hrf
          clear g0 g1 g2' g3 y0 y1 y2 y3 yf
          go_wp2
          generalize World.drew (wr.alloc (Obj.cells #[.int .i64 x1, .int .i64 x2, .int .i64 x3, .int .i64 x4] 78)) = wq at HB1 HZ1 HbZ ⊢
          refine wp_region_held_drew (S := fun w' => Blk w' wr.heap.size 78 #[.int .i64 x1, .int .i64 x2, .int .i64 x3, .int .i64 x4]) (by kernel_rfl) HB1.drew (fun hH => ?_)
          refine wpAnyH_take (i := 0) (v := .agg #[.int .i64 x1, .int .i64 x2, .int .i64 x3, .int .i64 x4]) rfl (by kernel_rfl) (by kernel_rfl) (by kernel_rfl) (fun _ _ _ h => h) (Or.inl ⟨by rfl, ?_⟩) hH ?_
          · intro w hw
            have f0 := hw.cell 0
            have f1 := hw.cell 1
            have f2 := hw.cell 2
            have f3 := hw.cell 3
            simp at f0 f1 f2 f3
            go_simp
          try simp only [Act.put, List.setIfInBounds_toArray, List.set_cons_zero, List.set_cons_succ]
          refine wpAnyH_take (i := 1) (v := .agg #[.int .i64 x1, .int .i64 x2, .int .i64 x3, .int .i64 x4]) rfl (by kernel_rfl) (by kernel_rfl) (by kernel_rfl) (fun _ _ _ h => h) (Or.inl ⟨by rfl, ?_⟩) hH ?_
          · intro w hw
            have f0 := hw.cell 0
            have f1 := hw.cell 1
            have f2 := hw.cell 2
            have f3 := hw.cell 3
            simp at f0 f1 f2 f3
            go_simp
          try simp only [Act.put, List.setIfInBounds_toArray, List.set_cons_zero, List.set_cons_succ]
          refine wpAnyH_ready (rs := [2]) (by kernel_rfl) (by simp) (AllReadyH.cons rfl (fun K hK => ?_) AllReadyH.nil)
          go_simp
          refine (Hisf.out _).mono ?_
          rintro e wa ⟨rfl, hba⟩
          go_wp2_with fail
          refine hK.out _ _ ?_ (fun hH2 => ?_)
          · exact HB1.drew.on hba
          clear hK K
          try simp only [Act.put, List.setIfInBounds_toArray, List.set_cons_zero, List.set_cons_succ]
          refine wpAnyH_take (i := 3) (v := .bool false) rfl (by kernel_rfl) (by kernel_rfl) (by kernel_rfl) (fun _ _ _ h => h) (Or.inl ⟨by rfl, ?_⟩) hH2 ?_
          · intro w _
            go_simp
          try simp only [Act.put, List.setIfInBounds_toArray, List.set_cons_zero, List.set_cons_succ]
          refine wpAnyH_take (i := 4) (v := undef) rfl (by kernel_rfl) (by kernel_rfl) (by kernel_rfl) (fun _ _ _ h => h) (Or.inr ⟨by rfl, rfl⟩) hH2 ?_
          try simp only [Act.put, List.setIfInBounds_toArray, List.set_cons_zero, List.set_cons_succ]
          refine wpAnyH_take (i := 5) (v := undef) rfl (by kernel_rfl) (by kernel_rfl) (by kernel_rfl) (fun _ _ _ h => h) (Or.inr ⟨by rfl, rfl⟩) hH2 ?_
          try simp only [Act.put, List.setIfInBounds_toArray, List.set_cons_zero, List.set_cons_succ]
          refine wpAnyH_take (i := 6) (v := undef) rfl (by kernel_rfl) (by kernel_rfl) (by kernel_rfl) (fun _ _ _ h => h) (Or.inr ⟨by rfl, rfl⟩) hH2 ?_
          try simp only [Act.put, List.setIfInBounds_toArray, List.set_cons_zero, List.set_cons_succ]
          refine wpAnyH_take (i := 7) (v := undef) rfl (by kernel_rfl) (by kernel_rfl) (by kernel_rfl) (fun _ _ _ h => h) (Or.inr ⟨by rfl, rfl⟩) hH2 ?_
          try simp only [Act.put, List.setIfInBounds_toArray, List.set_cons_zero, List.set_cons_succ]
          refine wpAnyH_take (i := 8) (v := undef) rfl (by kernel_rfl) (by kernel_rfl) (by kernel_rfl) (fun _ _ _ h => h) (Or.inr ⟨by rfl, rfl⟩) hH2 ?_
          try simp only [Act.put, List.setIfInBounds_toArray, List.set_cons_zero, List.set_cons_succ]
          refine wpAnyH_take (i := 9) (v := .bool false) rfl (by kernel_rfl) (by kernel_rfl) (by kernel_rfl) (fun _ _ _ h => h) (Or.inl ⟨by rfl, ?_⟩) hH2 ?_
          · intro w _
            go_simp
          try simp only [Act.put, List.setIfInBounds_toArray, List.set_cons_zero, List.set_cons_succ]
          have HZ_wa := HZ1.drew.on hba
          have hb_wa := bthen HbZ.drew hba
          have HB1' := HB1.drew
          clear HZ1 HbZ HB1 hH
          have y0 := HZ_wa.cell 0
          have y1 := HZ_wa.cell 1
          have y2 := HZ_wa.cell 2
          have y3 := HZ_wa.cell 3
          have yf := HZ_wa.frozen
          have yl := HZ_wa.lt
          simp at y0 y1 y2 y3
          refine wpAnyH_ready (rs := [10]) (by kernel_rfl) (by simp) (AllReadyH.cons rfl (fun K hK => ?_) AllReadyH.nil)
          go_simp
          refine hK.out _ _ ?_ (fun hH3 => ?_)
          · exact (((((HB1'.on hba).far (p := ⟨w.heap.size, 0, none⟩) Hne.out _).far (p := ⟨w.heap.size, 1, none⟩) Hne.out _).far (p := ⟨w.heap.size, 2, none⟩) Hne.out _).far (p := ⟨w.heap.size, 3, none⟩) Hne.out _)
          clear hK K
          try simp only [Act.put, List.setIfInBounds_toArray, List.set_cons_zero, List.set_cons_succ]
          refine wpAnyH_take (i := 11) (oi := { dst := some 5, op := .assign (.tmp 68), type := _, pos := _, after := _, guard := _ }) (v := .bool false) rfl (by kernel_rfl) (by kernel_rfl) (by kernel_rfl) (fun _ _ _ h => h) (Or.inl ⟨by rfl, ?_⟩) hH3 ?_
          · intro w _
            go_simp
          try simp only [Act.put, List.setIfInBounds_toArray, List.set_cons_zero, List.set_cons_succ]
          refine wpAnyH_done (by kernel_rfl) ?_ _
          go_wp2
          have HR4 := HZ_wa.set4 (b0 := .int .i64 x1) (b1 := .int .i64 x2) (b2 := .int .i64 x3) (b3 := .int .i64 x4)
          have r0 := HR4.cell 0
          have r1 := HR4.cell 1
          have r2 := HR4.cell 2
          have r3 := HR4.cell 3
          simp at r0 r1 r2 r3
          exact bodyPost_ret (v := .tuple #[.agg #[.int .i64 x1, .int .i64 x2, .int .i64 x3, .int .i64 x4], .bool false]) (by simp [results, Tryz.results204, go_sem, r0, r1, r2, r3]) rfl ⟨Hno.out, by repeat (first | (with_reducible assumption) | (with_reducible refine bst ?_ (by exact Nat.le_refl _) _) | (with_reducible refine Below.drew ?_))⟩
      · have Hno := Lib.hid (RdP.no (Hn5.out (by omega)) 0 0 0 0)
        obtain ⟨A9, c9, rfl⟩ := own_form Hown.out
        have hx5 : ¬ ((xs.length : Int) = 5) := by omega
        have r0 := HRr.out.cell 0
        have r1 := HRr.out.cell 1
        have r2 := HRr.out.cell 2
        have r3 := HRr.out.cell 3
        have rl := HRr.out.lt
        have rf := HRr.out.frozen
        simp at r0 r1 r2 r3
        have hx6 : ((xs.length : Int) == 5) = false := beq_eq_false_iff_ne.2 hx5
        have hx7 : ((xs.length : Int) != 5) = true := by simp [bne, hx6]
        go_wp2
        clear r0 r1 r2 r3 rf
        have HR4 := Lib.hid (HRr.out.set4 (b0 := .int .i64 0) (b1 := .int .i64 0) (b2 := .int .i64 0) (b3 := .int .i64 0))
        have Hb4 := bst (bst (bst (bst Hbr.out (p := ⟨w.heap.size, 0, none⟩) (Nat.le_refl _) (.int .i64 0)) (p := ⟨w.heap.size, 1, none⟩) (Nat.le_refl _) (.int .i64 0)) (p := ⟨w.heap.size, 2, none⟩) (Nat.le_refl _) (.int .i64 0)) (p := ⟨w.heap.size, 3, none⟩) (Nat.le_refl _) (.int .i64 0)
        have r0 := HR4.out.cell 0
        have r1 := HR4.out.cell 1
        have r2 := HR4.out.cell 2
        have r3 := HR4.out.cell 3
        simp at r0 r1 r2 r3
        exact bodyPost_ret (v := .tuple #[.agg #[.int .i64 0, .int .i64 0, .int .i64 0, .int .i64 0], .bool false]) (by simp [results, Tryz.results204, go_sem, r0, r1, r2, r3]) rfl ⟨Hno.out, Hb4⟩
end
section
open Go Go.RowKit

theorem infoRecord : (Tryz.prog.info? 78).map (fun i => (i.zero, i.size, i.bytes)) = some (some (.agg #[.int .i64 0, .int .i64 0, .int .i64 0, .int .i64 0]), 4, 32) := by kernel_rfl
theorem rc4 (x : Rc) : rcS.flat [x] = [.int .i64 x.a, .int .i64 x.b, .int .i64 x.lo, .int .i64 x.hi] := rfl
theorem ext_data (s : ByteArray) (a b : Nat) : (s.extract a b).data.toList = (s.data.toList.drop a).take (b - a) := Lib.extract_data s a b
theorem ext_all (s : ByteArray) (a : Nat) : (s.extract a s.size).data.toList = s.data.toList.drop a := by
  rw [ext_data, List.take_of_length_le]
  rw [List.length_drop]; exact Nat.le_refl _
theorem ext_line (s : ByteArray) (p n : Nat) : s.extract p (p + n + 1) = ⟨((s.data.toList.drop p).take (n + 1)).toArray⟩ := by
  apply bytes_ext
  rw [ext_data, show p + n + 1 - p = n + 1 by omega]
theorem openF_stop {F : Nat} {k : Int} {l rest : List UInt8} {xs : List Rc} {p : Nat} {G : Nat} {j : Int} (h : openF F k l = (xs ++ (openF G j rest).1, p + (openF G j rest).2)) (h0 : openF G j rest = ([], 0)) : openF F k l = (xs, p) := by
  rw [h0] at h
  simpa using h
theorem openF_on {F : Nat} {k : Int} {l rest : List UInt8} {xs : List Rc} {p : Nat} {G : Nat} {j : Int} {r : Rc} {m : Nat} (h : openF F k l = (xs ++ (openF (G + 1) j rest).1, p + (openF (G + 1) j rest).2)) (hm : Lib.indexByte rest 10 = m) (hr : rdL j ⟨(rest.take (m + 1)).toArray⟩ = some r) :
    openF F k l = ((xs ++ [r]) ++ (openF G (j + 1) (rest.drop (m + 1))).1, (p + (m + 1)) + (openF G (j + 1) (rest.drop (m + 1))).2) := by
  have h1 : (Lib.indexByte rest 10).toNat = m := by omega
  have h2 := openF_step (F := G) (k := j) (l := rest) (r := r) (by omega) (by rw [h1]; exact hr)
  rw [h1] at h2
  rw [h, h2]
  simp [Nat.add_assoc]
theorem ixb_any (s : ByteArray) (p : Nat) (w : World) : Calls Tryz.prog 203 #[.string (s.extract p s.size), .int .u8 10] w fun e w' => e = .returned (.int .i64 (Lib.indexByte (s.data.toList.drop p) 10)) ∧ w = w' := by
  refine (Tryz.strings_IndexByte (s.extract p s.size) 10 w).mono fun e w' hh => ?_
  obtain ⟨rfl, rfl⟩ := hh
  refine ⟨?_, rfl⟩
  rw [ext_all]
  rfl
set_option maxRecDepth 8000 in
set_option maxHeartbeats 4000000 in
theorem readRecords_any (s : ByteArray) (k : Nat) (w : World) (hk : k ≤ 30) (hs : s.size ≤ 2000000) (h : Env w) :
    Calls Tryz.prog 155 #[.string s, .int .i64 k] w fun e w' => (∃ (v : Value) (xs : List Rc) (n : Nat), openF (30 - k) k s.data.toList = (xs, n) ∧ e = .returned (.tuple #[v, .int .i64 n]) ∧ w'.ownsRow w.heap.size 78 4 v xs.length (rcS.flat xs)) ∧ Below w.heap.size w w' := by
  obtain ⟨i0, hi, hz0, hz1, hz2⟩ := info_parts infoRecord
  have He := Lib.hid h; clear h
  go_enter Tryz.func155, Tryz.ntmps155
  go_wp2
  go_loopw [7, 6] (fun a o wr => ∃ (p : Nat) (xs : List Rc), p ≤ s.size ∧ a = .int .i64 p ∧ k + xs.length ≤ 30 ∧ Hid (openF (30 - k) k s.data.toList = (xs ++ (openF (30 - (k + xs.length)) ((k + xs.length : Nat) : Int) (s.data.toList.drop p)).1, p + (openF (30 - (k + xs.length)) ((k + xs.length : Nat) : Int) (s.data.toList.drop p)).2)) ∧ Below w.heap.size w wr ∧ Hid (wr.ownsRow w.heap.size 78 4 o xs.length (rcS.flat xs))) (fun a _ _ => s.size - (intOf a).toNat)
  case atStart => exact ⟨0, [], Nat.zero_le _, rfl, hk, Lib.hid (by simp), Below.refl _ _, Lib.hid ⟨by simp [Shape.flat], Or.inl ⟨rfl, rfl⟩⟩⟩
  case round =>
    obtain ⟨p, xs, hp, rfl, hkx, Ho, hb, Hown⟩ := hrel
    obtain ⟨A9, c9, rfl⟩ := own_form Hown.out
    by_cases hlt : k + xs.length < 30
    · have h1 : (k : Int) + (xs.length : Int) < 30 := by omega
      have h2 : (0 : Int) ≤ (p : Int) := by omega
      have h3 : (p : Int) ≤ (s.size : Int) := by omega
      go_wp2_with fail
      refine (ixb_any s p _).mono ?_; rintro e w1 ⟨rfl, rfl⟩
      have hge := Lib.indexByte_ge (s.data.toList.drop p) 10
      by_cases hn : Lib.indexByte (s.data.toList.drop p) 10 < 0
      · have Hfin := Lib.hid (openF_stop Ho.out (openF_none hn))
        generalize Lib.indexByte (s.data.toList.drop p) 10 = N at hn
        go_wp2
        go_ret2
        exact ⟨⟨_, xs, p, Hfin.out, rfl, Hown.out⟩, hb⟩
      · obtain ⟨m, hm⟩ : ∃ m : Nat, Lib.indexByte (s.data.toList.drop p) 10 = m := ⟨(Lib.indexByte (s.data.toList.drop p) 10).toNat, by omega⟩
        have hml := ixb_lt (s.data.toList.drop p) 10 (by omega)
        rw [List.length_drop, hm, Int.toNat_natCast, show s.data.toList.length = s.size from rfl] at hml
        have hm2 : p + m + 1 ≤ s.size := by omega
        have Hm := Lib.hid hm
        rw [hm]
        clear hge hn hm hml
        have h4 : (p : Int) + (m : Int) + 1 ≤ (s.size : Int) := by omega
        have hkn : (0 : Int) ≤ (k : Int) + (xs.length : Int) ∧ (k : Int) + (xs.length : Int) ≤ 29 := by omega
        have hsz : (s.extract p (p + m + 1)).size ≤ 2000000 := by rw [ByteArray.size_extract]; omega
        have Hkn := Lib.hid hkn; have Hsz := Lib.hid hsz; clear hkn hsz
        go_wp2_with fail
        refine (readRecord_any _ _ _ Hkn.out Hsz.out (He.out.on hb)).mono ?_; rintro e w2 ⟨hrd, hb2⟩
        have Hown2 := Lib.hid (own_below Hown.out hb2)
        have hb02 := bthen hb hb2
        rw [ext_line] at hrd
        rcases hrd.cases Hkn.out with ⟨r, hr, -, -, rfl⟩ | ⟨hr, a, b, lo, hi', rfl⟩
        · clear hrd
          obtain ⟨G, hG⟩ : ∃ G, 30 - (k + xs.length) = G + 1 := ⟨29 - (k + xs.length), by omega⟩
          have Hnew := Lib.hid (show openF (30 - k) k s.data.toList = ((xs ++ [r]) ++ (openF (30 - (k + (xs ++ [r]).length)) ((k + (xs ++ [r]).length : Nat) : Int) (s.data.toList.drop (p + (m + 1)))).1, (p + (m + 1)) + (openF (30 - (k + (xs ++ [r]).length)) ((k + (xs ++ [r]).length : Nat) : Int) (s.data.toList.drop (p + (m + 1)))).2) by
            have h7 := Ho.out
            rw [hG] at h7
            have h8 := openF_on h7 Hm.out (by rw [show ((k + xs.length : Nat) : Int) = (k : Int) + (xs.length : Int) by omega]; exact hr)
            rw [List.drop_drop] at h8
            rw [List.length_append, List.length_singleton, show 30 - (k + (xs.length + 1)) = G by omega, show ((k + (xs.length + 1) : Nat) : Int) = ((k + xs.length : Nat) : Int) + 1 by omega]
            exact h8)
          clear hr hG
          go_wp2_with (at_builtin; refine wpList_append_own _ rfl _ _ 83 rfl w.heap.size 78 i0 (.agg #[.int .i64 0, .int .i64 0, .int .i64 0, .int .i64 0]) 4 32 Tryz.underlying83 hi hz0 hz1 hz2 rfl (by decide) _ _ _ rfl ((Hown2.out.alloc _).alloc _) ⟨w2.heap.size + 1, 0, none⟩ 1 1 (rcS.flat [r]) rfl rfl ?c1 ?c2 ?c3 ?c4 ?c5 ?_)
          case c1 =>
            intro j u hj
            rw [rc4] at hj
            match j, hj with
            | 0, hj => simp at hj; subst hj; simp [Addr.add]
            | 1, hj => simp at hj; subst hj; simp [Addr.add]
            | 2, hj => simp at hj; subst hj; simp [Addr.add]
            | 3, hj => simp at hj; subst hj; simp [Addr.add]
          case c2 => intro u hu; rw [rc4] at hu; simp at hu; rcases hu with rfl | rfl | rfl | rfl <;> rfl
          case c3 => unfold maxLen; omega
          case c4 => omega
          case c5 => have := hb02.size; simp; omega
          intro v' w3 hown' hgrow _
          have hbn : Below w.heap.size w w3 := Below.grown (bal (bal hb02 _) _) hgrow (by have := hb02.size; simp; omega) (fun j hj => (Hown2.out.lt j hj).1)
          have Hown' := Lib.hid (show w3.ownsRow w.heap.size 78 4 v' (xs ++ [r]).length (rcS.flat (xs ++ [r])) by rw [Shape.flat_append, List.length_append]; exact hown')
          clear hown' hgrow
          go_wp2
          go_roundw
          case rel => exact ⟨p + (m + 1), xs ++ [r], by omega, by go_num, by rw [List.length_append, List.length_singleton]; omega, Hnew, hbn, Hown'⟩
          case measure => simp [intOf]; omega
        · have Hfin := Lib.hid (openF_stop Ho.out (openF_bad (by rw [Hm.out, Int.toNat_natCast, show ((k + xs.length : Nat) : Int) = (k : Int) + (xs.length : Int) by omega]; exact hr)))
          clear hrd hr
          go_wp2
          go_ret2
          exact ⟨⟨_, xs, p, Hfin.out, rfl, Hown2.out.alloc _⟩, by (repeat (with_reducible first | exact Below.refl _ _ | assumption | refine bal ?_ _ | refine bst ?_ (by simp <;> omega) _ | refine Below.drew ?_ | refine bthen ?_ (by assumption)))⟩
    · have h1 : ¬ (k : Int) + (xs.length : Int) < 30 := by omega
      have Hfin := Lib.hid (show openF (30 - k) k s.data.toList = (xs, p) by
        have := Ho.out
        rw [show 30 - (k + xs.length) = 0 by omega, openF_zero] at this
        simpa using this)
      go_wp2
      go_ret2
      exact ⟨⟨_, xs, p, Hfin.out, rfl, Hown.out⟩, hb⟩
end
end Go.Proofs.YtimfoodbolokdaaGreatDoor
