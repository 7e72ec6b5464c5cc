/- The law FnIsogenyClasses: its walk. Conditions: none. Printed by gen_iclaw.py. -/
import Derived.Test.YtnhgdmhiblpknaaDrM2
import Derived.Test.YtnhgdmhiblpknaaIcQ
import Derived.Test.YtnhgdmhiblpknaaIcG2
import Derived.Test.YtnhgdmhiblpknaaQCu
import Derived.Test.YtnhgdmhiblpknaaQSm
import Derived.Test.YtnhgdmhiblpknaaBig
import Derived.Test.YtnhgdmhiblpknaaIcE
namespace Go.Proofs.Ytnhgdmhiblpknaa
open Go Go.RowKit

theorem clasI_lit {a b : Int} {L : List Cu} {ok : Bool} (h : clasV a b = (L, ok)) (w : World) :
    Calls Try.prog 16 #[.agg #[.int .i64 a, .int .i64 b]] w fun r w' => (∃ v : Value, r = .returned (.tuple #[v, .bool ok]) ∧ Rd cuS w' w'.heap.size v L) ∧ Below w.heap.size w w' := by
  refine (clasI_any a b w).mono ?_
  rintro r w1 ⟨⟨v, rfl, ho⟩, hb⟩
  rw [h] at ho ⊢
  exact ⟨⟨v, rfl, Rd.of_own ho rfl⟩, hb⟩
theorem clasS_lit {a b : Int} {L : List Cu} {ok : Bool} (h : clasV a b = (L, ok)) (w : World) :
    Calls Try.prog 17 #[.agg #[.int .i64 a, .int .i64 b]] w fun r w' => (∃ v : Value, r = .returned (.tuple #[v, .bool ok]) ∧ Rd cuS w' w'.heap.size v L) ∧ Below w.heap.size w w' := by
  refine (clasS_any a b w).mono ?_
  rintro r w1 ⟨⟨v, rfl, ho⟩, hb⟩
  rw [h] at ho ⊢
  exact ⟨⟨v, rfl, Rd.of_own ho rfl⟩, hb⟩
theorem stpI_lit {a b c d : Int} {s : Int} {q : Bool} (h : stpV a b c d = (s, q)) (w : World) :
    Calls Try.prog 19 #[.agg #[.int .i64 a, .int .i64 b], .agg #[.int .i64 c, .int .i64 d]] w fun r w' => r = .returned (.tuple #[.int .i64 s, .bool q]) ∧ Below w.heap.size w w' := by
  have h1 := stpI_any a b c d w
  rw [h] at h1
  exact h1
theorem stpS_lit {a b c d : Int} {s : Int} {q : Bool} (h : stpV a b c d = (s, q)) (w : World) :
    Calls Try.prog 20 #[.agg #[.int .i64 a, .int .i64 b], .agg #[.int .i64 c, .int .i64 d]] w fun r w' => r = .returned (.tuple #[.int .i64 s, .bool q]) ∧ Below w.heap.size w w' := by
  have h1 := stpS_any a b c d w
  rw [h] at h1
  exact h1
theorem twoI_lit {a b c d : Int} {s : Bool} {q : Bool} (h : twoV a b c d = (s, q)) (w : World) :
    Calls Try.prog 22 #[.agg #[.int .i64 a, .int .i64 b], .agg #[.int .i64 c, .int .i64 d]] w fun r w' => r = .returned (.tuple #[.bool s, .bool q]) ∧ Below w.heap.size w w' := by
  have h1 := twoI_any a b c d w
  rw [h] at h1
  exact h1
theorem twoS_lit {a b c d : Int} {s : Bool} {q : Bool} (h : twoV a b c d = (s, q)) (w : World) :
    Calls Try.prog 28 #[.agg #[.int .i64 a, .int .i64 b], .agg #[.int .i64 c, .int .i64 d]] w fun r w' => r = .returned (.tuple #[.bool s, .bool q]) ∧ Below w.heap.size w w' := by
  have h1 := twoS_any a b c d w
  rw [h] at h1
  exact h1
theorem isoI_lit {a b c d : Int} {s : Bool} {q : Bool} (h : isoV a b c d = (s, q)) (w : World) :
    Calls Try.prog 26 #[.agg #[.int .i64 a, .int .i64 b], .agg #[.int .i64 c, .int .i64 d]] w fun r w' => r = .returned (.tuple #[.bool s, .bool q]) ∧ Below w.heap.size w w' := by
  have h1 := isoI_any a b c d w
  rw [h] at h1
  exact h1
theorem edgI_lit {L : List Cu} {G : List (List Int)} {q : Bool} (h : edgesV L = (G, q)) (v : Value) (w : World) (hr : Rd cuS w w.heap.size v L) :
    Calls Try.prog 8 #[v] w fun r w' => (∃ u : Value, r = .returned (.tuple #[u, .bool q]) ∧ NRd w' w'.heap.size u G) ∧ Below w.heap.size w w' := by
  refine (edgesI_any v L w hr).mono ?_
  rintro r w1 ⟨⟨u, vs, rfl, ho⟩, hb⟩
  rw [h] at ho ⊢
  exact ⟨⟨u, rfl, NRd.of_own ho⟩, hb⟩
theorem edgS_lit {L : List Cu} {G : List (List Int)} {q : Bool} (h : edgesV L = (G, q)) (v : Value) (w : World) (hr : Rd cuS w w.heap.size v L) :
    Calls Try.prog 6 #[v] w fun r w' => (∃ u : Value, r = .returned (.tuple #[u, .bool q]) ∧ NRd w' w'.heap.size u G) ∧ Below w.heap.size w w' := by
  refine (edgesS_any v L w hr).mono ?_
  rintro r w1 ⟨⟨u, vs, rfl, ho⟩, hb⟩
  rw [h] at ho ⊢
  exact ⟨⟨u, rfl, NRd.of_own ho⟩, hb⟩
theorem frmI_lit {L : List Cu} {G : List (List Int)} {q : Bool} (h : formsV L = (G, q)) (v : Value) (w : World) (hr : Rd cuS w w.heap.size v L) :
    Calls Try.prog 24 #[v] w fun r w' => (∃ u : Value, r = .returned (.tuple #[u, .bool q]) ∧ NRd w' w'.heap.size u G) ∧ Below w.heap.size w w' := by
  refine (formsI_any v L w hr).mono ?_
  rintro r w1 ⟨⟨u, vs, rfl, ho⟩, hb⟩
  rw [h] at ho ⊢
  exact ⟨⟨u, rfl, NRd.of_own ho⟩, hb⟩
theorem frmS_lit {L : List Cu} {G : List (List Int)} {q : Bool} (h : formsV L = (G, q)) (v : Value) (w : World) (hr : Rd cuS w w.heap.size v L) :
    Calls Try.prog 25 #[v] w fun r w' => (∃ u : Value, r = .returned (.tuple #[u, .bool q]) ∧ NRd w' w'.heap.size u G) ∧ Below w.heap.size w w' := by
  refine (formsS_any v L w hr).mono ?_
  rintro r w1 ⟨⟨u, vs, rfl, ho⟩, hb⟩
  rw [h] at ho ⊢
  exact ⟨⟨u, rfl, NRd.of_own ho⟩, hb⟩
theorem qCu_same (u v : Value) (es : List Cu) (w : World) (hu : Rd cuS w w.heap.size u es) (hv : Rd cuS w w.heap.size v es) :
    Calls Try.prog 18 #[u, v] w fun r w' => r = .returned (.bool true) ∧ Below w.heap.size w w' := by
  have h := qCu_any u v es es w hu hv
  rwa [decide_eq_true rfl] at h
theorem Rd.formC {w : World} {v : Value} {L : List Cu} (h : Rd cuS w w.heap.size v L) : ∃ A c, v = .slice A L.length c := by
  obtain ⟨A, c, rfl, -⟩ := h
  exact ⟨A, c, rfl⟩
theorem Rd.cuAt {w : World} {A : Option Addr} {c : Nat} {L : List Cu} (h : Rd cuS w w.heap.size (.slice A L.length c) L) {k : Nat} (hk : k < L.length) :
    ∃ g off, A = some ⟨g, off, none⟩ ∧ g < w.heap.size ∧ ∀ k, k < L.length → w.cell? ⟨g, off + k * 2, none⟩ = some (.int .i64 (cuS.get L k).a) ∧ w.cell? ⟨g, off + k * 2 + 1, none⟩ = some (.int .i64 (cuS.get L k).b) := by
  obtain ⟨A', c', e, -, -, hA⟩ := h
  cases e
  obtain ⟨g, off, rfl, hg, hcell⟩ := hA (by omega)
  exact ⟨g, off, rfl, hg, fun k hk => cu_cells hcell k hk⟩
theorem NRd.formN {w : World} {v : Value} {G : List (List Int)} (h : NRd w w.heap.size v G) : ∃ A c, v = .slice A G.length c ∧ G.length ≤ 9223372036854775807 := by
  obtain ⟨vs, hl, ⟨A, c, rfl, h1, h2, -⟩, -⟩ := h
  unfold maxLen at h2
  exact ⟨A, c, by rw [hl], by omega⟩
/-- A row of a list of lists: where it lies, its own slice. -/
theorem NRd.rowAt {w : World} {A : Option Addr} {c : Nat} {G : List (List Int)} (h : NRd w w.heap.size (.slice A G.length c) G) {k : Nat} (hk : k < G.length) :
    ∃ g off A1 c1, A = some ⟨g, off, none⟩ ∧ g < w.heap.size ∧ w.cell? ⟨g, off + k, none⟩ = some (.slice A1 (cat' G k).length c1) ∧ Rd inS w w.heap.size (.slice A1 (cat' G k).length c1) (cat' G k) := by
  obtain ⟨vs, hl, hr0, hi⟩ := h
  obtain ⟨A', c', e, -, -, hA⟩ := hr0
  injection e with e1 e2 e3
  subst e1
  clear e2 e3
  obtain ⟨g, off, rfl, hg, hcell⟩ := hA (by omega)
  have f0 := sl_cells hcell k (by omega)
  have hr := hi k hk
  obtain ⟨A1, c1, e1, h1⟩ := hr
  rw [e1] at f0
  exact ⟨g, off, A1, c1, rfl, hg, f0, A1, c1, rfl, h1⟩
theorem Rd.inAt {w : World} {A : Option Addr} {n c : Nat} {l : List Int} (h : Rd inS w w.heap.size (.slice A n c) l) {k : Nat} (hk : k < l.length) :
    ∃ g off, A = some ⟨g, off, none⟩ ∧ g < w.heap.size ∧ ∀ k, k < l.length → w.cell? ⟨g, off + k, none⟩ = some (.int .i64 (inS.get l k)) := by
  obtain ⟨A', c', e, -, -, hA⟩ := h
  cases e
  obtain ⟨g, off, rfl, hg, hcell⟩ := hA (by omega)
  exact ⟨g, off, rfl, hg, fun k hk => in_cells hcell k hk⟩
theorem totL_take {G : List (List Int)} {k : Nat} (h : k < G.length) : totL (G.take (k + 1)) = totL (G.take k) + (cat' G k).length := by
  rw [List.take_succ_eq_append_getElem h, totL_append, cat_at h]
  unfold totL
  simp
theorem forms_tot {L : List Cu} {G : List (List Int)} {one : Bool} (h : formsV L = (G, one)) : totL G ≤ 20 := by
  cases one
  · rw [forms_no h]; exact Nat.zero_le _
  · rw [(foF_of h).tot]; exact (foF_of h).le
theorem forms_one {L : List Cu} {G : List (List Int)} {one : Bool} (h : formsV L = (G, one)) : ∀ k, k < G.length → one = true := by
  cases one
  · rw [forms_no h]; exact fun k hk => absurd hk (Nat.not_lt_zero _)
  · exact fun _ _ => rfl
set_option linter.unusedSimpArgs false in
set_option maxRecDepth 8000 in
set_option maxHeartbeats 16000000 in
theorem fnIsogenyClasses_walk (A : Option Addr) (n c : Nat) (B : Option Addr) (m d : Nat) (w : World) (ha : BytesAt w w.heap.size A n) (hb : BytesAt w w.heap.size B m) :
    Calls Try.prog 4 #[.slice A n c, .slice B m d] w fun e w' => e = .returned (.bool true) ∧ Below w.heap.size w w' := by
  have Ha := Lib.hid ha; have Hb := Lib.hid hb; clear ha hb
  go_enter Try.func4, Try.ntmps4
  go_wp2_with fail
  refine (big_any A n c B m d _).mono ?_; rintro e w1 ⟨rfl, hb1⟩
  have sz1 := Lib.hid (show w.heap.size + 0 ≤ w1.heap.size by have := hb1.size; (try simp only [World.size_alloc] at this); omega)
  have Hb1 := Lib.hid (bthen (Below.refl _ _) hb1)
  clear hb1
  cases hbg : bigB n m
  · clear hbg
    go_wp2_with fail
    refine (drawClass_any A n c _ (Ha.out.on (Hb1.out))).mono ?_; rintro e w2 ⟨⟨a, b, rfl⟩, hb2⟩
    have sz2 := Lib.hid (show w1.heap.size + 0 ≤ w2.heap.size by have := hb2.size; (try simp only [World.size_alloc] at this); omega)
    have Hb2 := Lib.hid (bthen (Hb1.out) hb2)
    clear hb2
    obtain ⟨L, ok, hV⟩ : ∃ L ok, clasV a b = (L, ok) := ⟨_, _, rfl⟩
    go_wp2_with fail
    refine (clasI_lit hV _).mono ?_; rintro e w3 ⟨⟨v1, rfl, r1⟩, hb3⟩
    have R1 := Lib.hid r1; clear r1
    have bc := Lib.hid ((Blk.new w2 37 #[.int .i64 a, .int .i64 b]).on hb3)
    have sz3 := Lib.hid (show w2.heap.size + 1 ≤ w3.heap.size by have := hb3.size; (try simp only [World.size_alloc] at this); omega)
    have Hb3 := Lib.hid (bthen (bal (Hb2.out) _) hb3)
    clear hb3
    have qbc_0 : w3.cell? ⟨w2.heap.size, 0, none⟩ = some (.int .i64 a) := bc.out.cell 0
    have qbc_1 : w3.cell? ⟨w2.heap.size, 1, none⟩ = some (.int .i64 b) := bc.out.cell 1
    have qbc_l := bc.out.lt
    go_wp2_with fail
    clear qbc_0 qbc_1 qbc_l
    refine (clasS_lit hV _).mono ?_; rintro e w4 ⟨⟨v2, rfl, r2⟩, hb4⟩
    obtain ⟨A2, c2, rfl⟩ := r2.formC
    have R2 := Lib.hid r2; clear r2
    replace bc := Lib.hid (bc.out.on (hb4))
    replace R1 := Lib.hid (R1.out.on (hb4))
    have sz4 := Lib.hid (show w3.heap.size + 0 ≤ w4.heap.size by have := hb4.size; (try simp only [World.size_alloc] at this); omega)
    have Hb4 := Lib.hid (bthen (Hb3.out) hb4)
    clear hb4
    go_wp2_with fail
    refine (qCu_same _ _ L _ R1.out R2.out).mono ?_; rintro e w5 ⟨rfl, hb5⟩
    replace bc := Lib.hid (bc.out.on (hb5))
    replace R1 := Lib.hid (R1.out.on (hb5))
    replace R2 := Lib.hid (R2.out.on (hb5))
    have sz5 := Lib.hid (show w4.heap.size + 0 ≤ w5.heap.size by have := hb5.size; (try simp only [World.size_alloc] at this); omega)
    have Hb5 := Lib.hid (bthen (Hb4.out) hb5)
    clear hb5
    go_upto_if 77 with fail
    go_cut [4] from 78 to 234 (fun r wx => Below w.heap.size w wx)
    case first =>
      cases ok
      · go_wp2
        go_meet
        exact Hb5.out
      · have C := Lib.hid (clF_of hV)
        clear hV
        have hpos := C.out.pos
        have hle := C.out.le
        have hd1 : decide ((L.length : Int) < 1) = false := decide_eq_false (by omega)
        have hd2 : decide ((8 : Int) < (L.length : Int)) = false := decide_eq_false (by omega)
        go_wp2
        go_loopw [88] (fun i wr => ∃ k : Nat, k ≤ L.length ∧ i = .int .i64 k ∧ Hid (Rd cuS wr wr.heap.size (v1) L) ∧ Hid (Rd cuS wr wr.heap.size (.slice A2 L.length c2) L) ∧ Hid (Blk wr (w2.heap.size) 37 #[.int .i64 a, .int .i64 b]) ∧ Hid (Below w.heap.size w wr)) (fun i _ => L.length - (intOf i).toNat)
        case atStart => exact ⟨0, Nat.zero_le _, rfl, R1, R2, bc, Hb5⟩
        case round =>
          obtain ⟨k, hk, rfl, R1, R2, bc, HbR⟩ := hrel
          by_cases hlt : k < L.length
          · obtain ⟨g, off, rfl, hg, hcell⟩ := R2.out.cuAt hlt
            obtain ⟨f0, f1⟩ := hcell k hlt
            clear hcell
            obtain ⟨hk1, s, hs1, hs2, hs3⟩ := C.out.mem k hlt
            obtain ⟨y, hy⟩ : ∃ y, cuS.get L k = y := ⟨_, rfl⟩
            rw [hy] at f0 f1 hk1 hs2 hs3
            clear hy
            have hi0 : (0 : Int) ≤ (k : Int) := by omega
            have hi1 : (k : Int) < (L.length : Int) := by omega
            have Hk1 := Lib.hid hk1; have Hs1 := Lib.hid hs1; have Hs2 := Lib.hid hs2; have Hs3 := Lib.hid hs3; clear hk1 hs1 hs2 hs3
            go_wp2_with fail
            refine (clasI_lit Hk1.out _).mono ?_; rintro e w6 ⟨⟨v3, rfl, r3⟩, hb6⟩
            have R3 := Lib.hid r3; clear r3
            replace bc := Lib.hid (bc.out.on (bthen (bal (Below.refl _ _) _) hb6))
            replace R1 := Lib.hid (R1.out.on (bthen (bal (Below.refl _ _) _) hb6))
            replace R2 := Lib.hid (R2.out.on (bthen (bal (Below.refl _ _) _) hb6))
            have bd := Lib.hid ((Blk.new wr 37 #[.int .i64 y.a, .int .i64 y.b]).on hb6)
            have sz6 := Lib.hid (show wr.heap.size + 1 ≤ w6.heap.size by have := hb6.size; (try simp only [World.size_alloc] at this); omega)
            have Hb6 := Lib.hid (bthen (bal (HbR.out) _) hb6)
            clear hb6
            clear f0 f1 hg
            have qbc_0 : w6.cell? ⟨w2.heap.size, 0, none⟩ = some (.int .i64 a) := bc.out.cell 0
            have qbc_1 : w6.cell? ⟨w2.heap.size, 1, none⟩ = some (.int .i64 b) := bc.out.cell 1
            have qbc_l := bc.out.lt
            have qbd_0 : w6.cell? ⟨wr.heap.size, 0, none⟩ = some (.int .i64 y.a) := bd.out.cell 0
            have qbd_1 : w6.cell? ⟨wr.heap.size, 1, none⟩ = some (.int .i64 y.b) := bd.out.cell 1
            have qbd_l := bd.out.lt
            go_wp2_with fail
            clear qbc_0 qbc_1 qbc_l qbd_0 qbd_1 qbd_l
            refine (stpI_lit Hs2.out _).mono ?_; rintro e w7 ⟨rfl, hb7⟩
            replace bc := Lib.hid (bc.out.on (hb7))
            replace R1 := Lib.hid (R1.out.on (hb7))
            replace R2 := Lib.hid (R2.out.on (hb7))
            replace bd := Lib.hid (bd.out.on (hb7))
            replace R3 := Lib.hid (R3.out.on (hb7))
            have sz7 := Lib.hid (show w6.heap.size + 0 ≤ w7.heap.size by have := hb7.size; (try simp only [World.size_alloc] at this); omega)
            have Hb7 := Lib.hid (bthen (Hb6.out) hb7)
            clear hb7
            have qbc_0 : w7.cell? ⟨w2.heap.size, 0, none⟩ = some (.int .i64 a) := bc.out.cell 0
            have qbc_1 : w7.cell? ⟨w2.heap.size, 1, none⟩ = some (.int .i64 b) := bc.out.cell 1
            have qbc_l := bc.out.lt
            have qbd_0 : w7.cell? ⟨wr.heap.size, 0, none⟩ = some (.int .i64 y.a) := bd.out.cell 0
            have qbd_1 : w7.cell? ⟨wr.heap.size, 1, none⟩ = some (.int .i64 y.b) := bd.out.cell 1
            have qbd_l := bd.out.lt
            go_wp2_with fail
            clear qbc_0 qbc_1 qbc_l qbd_0 qbd_1 qbd_l
            refine (stpS_lit Hs2.out _).mono ?_; rintro e w8 ⟨rfl, hb8⟩
            replace bc := Lib.hid (bc.out.on (hb8))
            replace R1 := Lib.hid (R1.out.on (hb8))
            replace R2 := Lib.hid (R2.out.on (hb8))
            replace bd := Lib.hid (bd.out.on (hb8))
            replace R3 := Lib.hid (R3.out.on (hb8))
            have sz8 := Lib.hid (show w7.heap.size + 0 ≤ w8.heap.size by have := hb8.size; (try simp only [World.size_alloc] at this); omega)
            have Hb8 := Lib.hid (bthen (Hb7.out) hb8)
            clear hb8
            have qbc_0 : w8.cell? ⟨w2.heap.size, 0, none⟩ = some (.int .i64 a) := bc.out.cell 0
            have qbc_1 : w8.cell? ⟨w2.heap.size, 1, none⟩ = some (.int .i64 b) := bc.out.cell 1
            have qbc_l := bc.out.lt
            have qbd_0 : w8.cell? ⟨wr.heap.size, 0, none⟩ = some (.int .i64 y.a) := bd.out.cell 0
            have qbd_1 : w8.cell? ⟨wr.heap.size, 1, none⟩ = some (.int .i64 y.b) := bd.out.cell 1
            have qbd_l := bd.out.lt
            go_wp2_with fail
            clear qbc_0 qbc_1 qbc_l qbd_0 qbd_1 qbd_l
            refine (stpI_lit Hs3.out _).mono ?_; rintro e w9 ⟨rfl, hb9⟩
            replace bc := Lib.hid (bc.out.on (hb9))
            replace R1 := Lib.hid (R1.out.on (hb9))
            replace R2 := Lib.hid (R2.out.on (hb9))
            replace bd := Lib.hid (bd.out.on (hb9))
            replace R3 := Lib.hid (R3.out.on (hb9))
            have sz9 := Lib.hid (show w8.heap.size + 0 ≤ w9.heap.size by have := hb9.size; (try simp only [World.size_alloc] at this); omega)
            have Hb9 := Lib.hid (bthen (Hb8.out) hb9)
            clear hb9
            go_wp2_with fail
            refine (qCu_same _ _ L _ R3.out R2.out).mono ?_; rintro e w10 ⟨rfl, hb10⟩
            replace bc := Lib.hid (bc.out.on (hb10))
            replace R1 := Lib.hid (R1.out.on (hb10))
            replace R2 := Lib.hid (R2.out.on (hb10))
            replace bd := Lib.hid (bd.out.on (hb10))
            replace R3 := Lib.hid (R3.out.on (hb10))
            have sz10 := Lib.hid (show w9.heap.size + 0 ≤ w10.heap.size by have := hb10.size; (try simp only [World.size_alloc] at this); omega)
            have Hb10 := Lib.hid (bthen (Hb9.out) hb10)
            clear hb10
            have hd3 : decide ((L.length : Int) ≤ s) = false := decide_eq_false (by have := Hs1.out; omega)
            go_wp2
            go_roundw
            case rel => exact ⟨k + 1, by omega, by go_num, R1, R2, bc, Hb10⟩
            case measure => simp [intOf]; omega
          · obtain rfl : k = L.length := by omega
            clear bc hd1 hd2
            have Hed := Lib.hid C.out.ed; have hedl := C.out.edl; have Htwo := Lib.hid C.out.two; clear C
            generalize edTo L L.length = G at Hed hedl Htwo
            go_wp2_with fail
            refine (edgI_lit Hed.out _ _ R1.out).mono ?_; rintro e w6 ⟨⟨v4, rfl, n1⟩, hb6⟩
            have N1 := Lib.hid n1; clear n1
            replace R1 := Lib.hid (R1.out.on (hb6))
            replace R2 := Lib.hid (R2.out.on (hb6))
            have sz6 := Lib.hid (show wr.heap.size + 0 ≤ w6.heap.size by have := hb6.size; (try simp only [World.size_alloc] at this); omega)
            have Hb6 := Lib.hid (bthen (HbR.out) hb6)
            clear hb6
            go_wp2_with fail
            refine (edgS_lit Hed.out _ _ R2.out).mono ?_; rintro e w7 ⟨⟨v5, rfl, n2⟩, hb7⟩
            obtain ⟨A5, c5, rfl, hmx⟩ := n2.formN
            have N2 := Lib.hid n2; clear n2
            replace R1 := Lib.hid (R1.out.on (hb7))
            replace R2 := Lib.hid (R2.out.on (hb7))
            replace N1 := Lib.hid (N1.out.on (hb7))
            have sz7 := Lib.hid (show w6.heap.size + 0 ≤ w7.heap.size by have := hb7.size; (try simp only [World.size_alloc] at this); omega)
            have Hb7 := Lib.hid (bthen (Hb6.out) hb7)
            clear hb7
            go_wp2_with fail
            refine (sameL_same _ _ G _ N1.out N2.out).mono ?_; rintro e w8 ⟨rfl, hb8⟩
            replace R1 := Lib.hid (R1.out.on (hb8))
            replace R2 := Lib.hid (R2.out.on (hb8))
            replace N1 := Lib.hid (N1.out.on (hb8))
            replace N2 := Lib.hid (N2.out.on (hb8))
            have sz8 := Lib.hid (show w7.heap.size + 0 ≤ w8.heap.size by have := hb8.size; (try simp only [World.size_alloc] at this); omega)
            have Hb8 := Lib.hid (bthen (Hb7.out) hb8)
            clear hb8
            have hd4 : decide ((G.length : Int) < (L.length : Int) - 1) = false := decide_eq_false (by omega)
            go_wp2
            go_loopw [184] (fun i wr => ∃ k : Nat, k ≤ G.length ∧ i = .int .i64 k ∧ Hid (Rd cuS wr wr.heap.size (.slice A2 L.length c2) L) ∧ Hid (NRd wr wr.heap.size (.slice A5 G.length c5) G) ∧ Hid (Below w.heap.size w wr)) (fun i _ => G.length - (intOf i).toNat)
            case atStart => exact ⟨0, Nat.zero_le _, rfl, R2, N2, Hb8⟩
            case round =>
              obtain ⟨k, hk, rfl, R2, N2, HbR⟩ := hrel
              by_cases hlt : k < G.length
              · obtain ⟨g, off, A1, c1, rfl, hg, f0, hrow⟩ := N2.out.rowAt hlt
                obtain ⟨i, j, e, hil, hjl, ht1, ht2⟩ := Htwo.out (cat' G k) (by rw [cat_at hlt]; exact List.getElem_mem hlt)
                rw [e] at f0 hrow
                have hl2 : [(i : Int), (j : Int)].length = 2 := rfl
                rw [hl2] at f0 hrow
                clear e hl2
                have RW := Lib.hid hrow; clear hrow
                have Hil := Lib.hid hil; have Hjl := Lib.hid hjl
                obtain ⟨y, hy⟩ : ∃ y, cuS.get L i = y := ⟨_, rfl⟩; obtain ⟨z, hz⟩ : ∃ y, cuS.get L j = y := ⟨_, rfl⟩
                rw [hy, hz] at ht1 ht2
                have Hy := Lib.hid hy; have Hz := Lib.hid hz; have Ht1 := Lib.hid ht1; have Ht2 := Lib.hid ht2; clear hy hz ht1 ht2
                have hi0 : (0 : Int) ≤ (k : Int) := by omega
                have hi1 : (k : Int) < (G.length : Int) := by omega
                have hi2 : (0 : Int) ≤ (i : Int) := by omega
                have hi3 : (i : Int) < (L.length : Int) := by omega
                have hi4 : (0 : Int) ≤ (j : Int) := by omega
                have hi5 : (j : Int) < (L.length : Int) := by omega
                obtain ⟨g8, o8, h8, hg8, hc8⟩ := RW.out.inAt (k := 0) (by simp)
                cases h8
                have t0 : wr.cell? ⟨g8, o8, none⟩ = some (.int .i64 (i : Int)) := hc8 0 (by simp)
                have t1 : wr.cell? ⟨g8, o8 + 1, none⟩ = some (.int .i64 (j : Int)) := hc8 1 (by simp)
                clear hc8
                obtain ⟨gp, op, hp, hgp, hcp⟩ := R2.out.cuAt Hil.out
                cases hp
                obtain ⟨p0, p1⟩ := hcp i Hil.out
                clear hcp
                obtain ⟨gq, oq, hq, hgq, hcq⟩ := R2.out.cuAt Hjl.out
                cases hq
                obtain ⟨q0, q1⟩ := hcq j Hjl.out
                clear hcq
                rw [Hy.out] at p0 p1; rw [Hz.out] at q0 q1
                go_wp2_with fail
                refine wp_region_tame (by kernel_rfl) (by kernel_rfl) (fun T _ W hT => ?_)
                have hx := hT.cell
                repeat (go_big_quiet_step ((first | (go_at_call 22; with_reducible exact hT.call (twoI_lit Ht1.out _)) | fail)))
                refine wpQuiet_nil ?_
                intro tt
                clear hx
                have hb9 := hT.below tt
                generalize W tt = w9 at hb9 ⊢
                clear hT
                clear t0 t1 p0 p1 q0 q1 hg8 hgp hgq f0 hg
                replace R2 := Lib.hid (R2.out.on (hb9))
                replace N2 := Lib.hid (N2.out.on (hb9))
                replace RW := Lib.hid (RW.out.on (hb9))
                have sz9 := Lib.hid (show wr.heap.size + 0 ≤ w9.heap.size by have := hb9.size; (try simp only [World.size_alloc] at this); omega)
                have Hb9 := Lib.hid (bthen (HbR.out) hb9)
                clear hb9
                obtain ⟨g8, o8, h8, hg8, hc8⟩ := RW.out.inAt (k := 0) (by simp)
                cases h8
                have t0 : w9.cell? ⟨g8, o8, none⟩ = some (.int .i64 (i : Int)) := hc8 0 (by simp)
                have t1 : w9.cell? ⟨g8, o8 + 1, none⟩ = some (.int .i64 (j : Int)) := hc8 1 (by simp)
                clear hc8
                obtain ⟨gp, op, hp, hgp, hcp⟩ := R2.out.cuAt Hil.out
                cases hp
                obtain ⟨p0, p1⟩ := hcp i Hil.out
                clear hcp
                obtain ⟨gq, oq, hq, hgq, hcq⟩ := R2.out.cuAt Hjl.out
                cases hq
                obtain ⟨q0, q1⟩ := hcq j Hjl.out
                clear hcq
                rw [Hy.out] at p0 p1; rw [Hz.out] at q0 q1
                go_wp2_with fail
                refine wp_region_tame (by kernel_rfl) (by kernel_rfl) (fun T _ W hT => ?_)
                have hx := hT.cell
                repeat (go_big_quiet_step ((first | (go_at_call 22; with_reducible exact hT.call (twoI_lit Ht2.out _)) | fail)))
                refine wpQuiet_nil ?_
                intro tt
                clear hx
                have hb10 := hT.below tt
                generalize W tt = w10 at hb10 ⊢
                clear hT
                clear t0 t1 p0 p1 q0 q1 hg8 hgp hgq
                replace R2 := Lib.hid (R2.out.on (hb10))
                replace N2 := Lib.hid (N2.out.on (hb10))
                replace RW := Lib.hid (RW.out.on (hb10))
                have sz10 := Lib.hid (show w9.heap.size + 0 ≤ w10.heap.size by have := hb10.size; (try simp only [World.size_alloc] at this); omega)
                have Hb10 := Lib.hid (bthen (Hb9.out) hb10)
                clear hb10
                go_wp2
                go_roundw
                case rel => exact ⟨k + 1, by omega, by go_num, R2, N2, Hb10⟩
                case measure => simp [intOf]; omega
              · obtain rfl : k = G.length := by omega
                go_wp2
                go_meet
                exact HbR.out
    have hbc := hcut
    obtain ⟨w6, hw9⟩ : ∃ x, x = wc := ⟨_, rfl⟩
    subst hw9
    have Hb6 := Lib.hid hbc; clear hbc
    go_wp2_with fail
    refine (drawForms_any B m d _ (Hb.out.on (Hb6.out))).mono ?_; rintro e w7 ⟨⟨v6, m6, hm6, rfl, hv6⟩, hb7⟩
    obtain ⟨L, hL, ho6⟩ := hv6.cu
    rw [← hL] at hm6
    have r6 := Rd.of_own (S := cuS) ho6 rfl
    clear hv6 hL ho6
    obtain ⟨A2, c2, rfl⟩ := r6.formC
    have R6 := Lib.hid r6; clear r6
    have sz7 := Lib.hid (show w6.heap.size + 0 ≤ w7.heap.size by have := hb7.size; (try simp only [World.size_alloc] at this); omega)
    have Hb7 := Lib.hid (bthen (Hb6.out) hb7)
    clear hb7
    obtain ⟨G, one, hF⟩ : ∃ G q, formsV L = (G, q) := ⟨_, _, rfl⟩
    go_wp2_with fail
    refine (frmI_lit hF _ _ R6.out).mono ?_; rintro e w8 ⟨⟨v4, rfl, n1⟩, hb8⟩
    have N1 := Lib.hid n1; clear n1
    replace R6 := Lib.hid (R6.out.on (hb8))
    have sz8 := Lib.hid (show w7.heap.size + 0 ≤ w8.heap.size by have := hb8.size; (try simp only [World.size_alloc] at this); omega)
    have Hb8 := Lib.hid (bthen (Hb7.out) hb8)
    clear hb8
    go_wp2_with fail
    refine (frmS_lit hF _ _ R6.out).mono ?_; rintro e w9 ⟨⟨v5, rfl, n2⟩, hb9⟩
    obtain ⟨A5, c5, rfl, hmx⟩ := n2.formN
    have N2 := Lib.hid n2; clear n2
    replace R6 := Lib.hid (R6.out.on (hb9))
    replace N1 := Lib.hid (N1.out.on (hb9))
    have sz9 := Lib.hid (show w8.heap.size + 0 ≤ w9.heap.size by have := hb9.size; (try simp only [World.size_alloc] at this); omega)
    have Hb9 := Lib.hid (bthen (Hb8.out) hb9)
    clear hb9
    go_wp2_with fail
    refine (sameL_same _ _ G _ N1.out N2.out).mono ?_; rintro e w10 ⟨rfl, hb10⟩
    replace R6 := Lib.hid (R6.out.on (hb10))
    replace N1 := Lib.hid (N1.out.on (hb10))
    replace N2 := Lib.hid (N2.out.on (hb10))
    have sz10 := Lib.hid (show w9.heap.size + 0 ≤ w10.heap.size by have := hb10.size; (try simp only [World.size_alloc] at this); omega)
    have Hb10 := Lib.hid (bthen (Hb9.out) hb10)
    clear hb10
    have HF := Lib.hid (fun (h : one = true) => foF_of (by rw [← h]; exact hF))
    have Htot := Lib.hid (forms_tot hF)
    have Hgr := Lib.hid (forms_one hF)
    have HF2 := Lib.hid (show one = true → totL G = L.length from fun h => (HF.out h).tot)
    clear hF
    go_wp2
    go_loopw [258, 35] (fun i s wr => ∃ k : Nat, k ≤ G.length ∧ i = .int .i64 k ∧ s = .int .i64 ((totL (G.take k) : Nat) : Int) ∧ Hid (Rd cuS wr wr.heap.size (.slice A2 L.length c2) L) ∧ Hid (NRd wr wr.heap.size (.slice A5 G.length c5) G) ∧ Hid (Below w.heap.size w wr)) (fun i _ _ => G.length - (intOf i).toNat)
    case atStart => exact ⟨0, Nat.zero_le _, rfl, rfl, R6, N2, Hb10⟩
    case round =>
      obtain ⟨k, hk, rfl, rfl, R6, N2, HbR⟩ := hrel
      by_cases hlt : k < G.length
      · obtain ⟨g, off, A1, c1, rfl, hg, f0, hrow⟩ := N2.out.rowAt hlt
        have RW := Lib.hid hrow; clear hrow
        obtain ⟨h0, l0, he, hh0, hall⟩ := (HF.out (Hgr.out k hlt)).grp k hlt
        have Hall := Lib.hid hall; clear hall
        have Htk := Lib.hid (totL_take hlt)
        have Htle := Lib.hid (show totL (G.take (k + 1)) ≤ 20 from Nat.le_trans (totL_take_le G (k + 1)) Htot.out)
        have hsum : totL (G.take k) + (cat' G k).length ≤ 20 := by rw [← Htk.out]; exact Htle.out
        have He := Lib.hid he; clear he
        obtain ⟨gk, hgk⟩ : ∃ gk, cat' G k = gk := ⟨_, rfl⟩
        rw [hgk] at f0 hsum RW Hall Htk He
        clear hgk
        generalize totL (G.take k) = tk at hsum Htk ⊢
        have hi0 : (0 : Int) ≤ (k : Int) := by omega
        have hi1 : (k : Int) < (G.length : Int) := by omega
        go_wp2
        clear f0 hg
        go_loopw [268] (fun i wr => ∃ n : Nat, n ≤ gk.length ∧ i = .int .i64 n ∧ Hid (Rd cuS wr wr.heap.size (.slice A2 L.length c2) L) ∧ Hid (NRd wr wr.heap.size (.slice (some ⟨g, off, none⟩) G.length c5) G) ∧ Hid (Rd inS wr wr.heap.size (.slice A1 gk.length c1) gk) ∧ Hid (Below w.heap.size w wr)) (fun i _ => gk.length - (intOf i).toNat)
        case atStart => exact ⟨0, Nat.zero_le _, rfl, R6, N2, RW, HbR⟩
        case round =>
          obtain ⟨n, hn, rfl, R6, N2, RW, HbR⟩ := hrel
          by_cases hltn : n < gk.length
          · obtain ⟨j, hj, hjl, hiso⟩ := Hall.out n hltn
            have Hjl := Lib.hid hjl; have Hhl := Lib.hid hh0
            have hp0 : 0 < gk.length := by omega
            obtain ⟨g8, o8, h8, hg8, hc8⟩ := RW.out.inAt hltn
            cases h8
            have t0 : wr.cell? ⟨g8, o8, none⟩ = some (.int .i64 (h0 : Int)) := by have h9 := hc8 0 hp0; rw [Nat.add_zero] at h9; rw [h9, He.out]; rfl
            have t1 : wr.cell? ⟨g8, o8 + n, none⟩ = some (.int .i64 (j : Int)) := by rw [hc8 n hltn, hj]
            clear hc8 hj
            obtain ⟨y, hy⟩ : ∃ y, cuS.get L h0 = y := ⟨_, rfl⟩; obtain ⟨u, hu⟩ : ∃ y, cuS.get L j = y := ⟨_, rfl⟩
            rw [hy, hu] at hiso
            have Hiso := Lib.hid hiso; clear hiso
            obtain ⟨gp, op, hp, hgp, hcp⟩ := R6.out.cuAt Hhl.out
            cases hp
            obtain ⟨p0, p1⟩ := hcp h0 Hhl.out
            clear hcp
            obtain ⟨gq, oq, hq, hgq, hcq⟩ := R6.out.cuAt Hjl.out
            cases hq
            obtain ⟨q0, q1⟩ := hcq j Hjl.out
            clear hcq
            rw [hy] at p0 p1; rw [hu] at q0 q1; clear hy hu
            have hi2 : (0 : Int) ≤ (h0 : Int) := by omega
            have hi3 : (h0 : Int) < (L.length : Int) := by omega
            have hi4 : (0 : Int) ≤ (j : Int) := by omega
            have hi5 : (j : Int) < (L.length : Int) := by omega
            have hi6 : (0 : Int) ≤ (n : Int) := by omega
            have hi7 : (n : Int) < (gk.length : Int) := by omega
            have hi8 : (0 : Int) < (gk.length : Int) := by omega
            go_wp2_with fail
            refine wp_region_tame (by kernel_rfl) (by kernel_rfl) (fun T _ W hT => ?_)
            have hx := hT.cell
            repeat (go_big_quiet_step ((first | (go_at_call 26; with_reducible exact hT.call (isoI_lit Hiso.out _)) | fail)))
            refine wpQuiet_nil ?_
            intro tt
            clear hx
            have hb11 := hT.below tt
            generalize W tt = w11 at hb11 ⊢
            clear hT
            clear t0 t1 p0 p1 q0 q1 hg8 hgp hgq
            replace R6 := Lib.hid (R6.out.on (hb11))
            replace N2 := Lib.hid (N2.out.on (hb11))
            replace RW := Lib.hid (RW.out.on (hb11))
            have sz11 := Lib.hid (show wr.heap.size + 0 ≤ w11.heap.size by have := hb11.size; (try simp only [World.size_alloc] at this); omega)
            have Hb11 := Lib.hid (bthen (HbR.out) hb11)
            clear hb11
            go_wp2
            go_roundw
            case rel => exact ⟨n + 1, by omega, by go_num, R6, N2, RW, Hb11⟩
            case measure => simp [intOf]; omega
          · obtain rfl : n = gk.length := by omega
            go_wp2
            go_roundw
            case rel => exact ⟨k + 1, by omega, by go_num, by rw [Htk.out]; go_num, R6, N2, HbR⟩
            case measure => simp [intOf]; omega
      · obtain rfl : k = G.length := by omega
        rw [List.take_length]
        clear HF Hgr Htot R6 N2
        cases one
        · clear HF2
          go_wp2_with fail
          refine (drawTwoIso_any B m d _ (Hb.out.on (HbR.out))).mono ?_; rintro e w11 ⟨⟨a1, b1, a2, b2, rfl⟩, hb11⟩
          have sz11 := Lib.hid (show wr.heap.size + 0 ≤ w11.heap.size by have := hb11.size; (try simp only [World.size_alloc] at this); omega)
          have Hb11 := Lib.hid (bthen (HbR.out) hb11)
          clear hb11
          obtain ⟨p1, q1, hV⟩ : ∃ p q, twoV a1 b1 a2 b2 = (p, q) := ⟨_, _, rfl⟩
          have HV := Lib.hid hV; clear hV
          go_wp2_with fail
          refine (twoI_lit HV.out _).mono ?_; rintro e w12 ⟨rfl, hb12⟩
          have bx := Lib.hid (((Blk.new w11 37 #[.int .i64 a1, .int .i64 b1]).alloc _).on hb12)
          have bz := Lib.hid ((Blk.new1 w11 _ 37 #[.int .i64 a2, .int .i64 b2]).on hb12)
          have sz12 := Lib.hid (show w11.heap.size + 2 ≤ w12.heap.size by have := hb12.size; (try simp only [World.size_alloc] at this); omega)
          have Hb12 := Lib.hid (bthen (bal (bal (Hb11.out) _) _) hb12)
          clear hb12
          have qbx_0 : w12.cell? ⟨w11.heap.size, 0, none⟩ = some (.int .i64 a1) := bx.out.cell 0
          have qbx_1 : w12.cell? ⟨w11.heap.size, 1, none⟩ = some (.int .i64 b1) := bx.out.cell 1
          have qbx_l := bx.out.lt
          have qbz_0 : w12.cell? ⟨w11.heap.size + 1, 0, none⟩ = some (.int .i64 a2) := bz.out.cell 0
          have qbz_1 : w12.cell? ⟨w11.heap.size + 1, 1, none⟩ = some (.int .i64 b2) := bz.out.cell 1
          have qbz_l := bz.out.lt
          go_wp2_with fail
          clear qbx_0 qbx_1 qbx_l qbz_0 qbz_1 qbz_l
          refine (twoS_lit HV.out _).mono ?_; rintro e w13 ⟨rfl, hb13⟩
          replace bx := Lib.hid (bx.out.on (hb13))
          replace bz := Lib.hid (bz.out.on (hb13))
          have sz13 := Lib.hid (show w12.heap.size + 0 ≤ w13.heap.size by have := hb13.size; (try simp only [World.size_alloc] at this); omega)
          have Hb13 := Lib.hid (bthen (Hb12.out) hb13)
          clear hb13
          go_wp2_with fail
          refine (drawEdges_any B m d _ (Hb.out.on (Hb13.out))).mono ?_; rintro e w14 ⟨⟨v7, m7, hm7, rfl, hv7⟩, hb14⟩
          obtain ⟨L7, hL7, ho7⟩ := hv7.cu
          have r7 := Rd.of_own (S := cuS) ho7 rfl
          clear hv7 hL7 ho7 hm7
          have R7 := Lib.hid r7; clear r7
          replace bx := Lib.hid (bx.out.on (hb14))
          replace bz := Lib.hid (bz.out.on (hb14))
          have sz14 := Lib.hid (show w13.heap.size + 0 ≤ w14.heap.size by have := hb14.size; (try simp only [World.size_alloc] at this); omega)
          have Hb14 := Lib.hid (bthen (Hb13.out) hb14)
          clear hb14
          obtain ⟨G7, q7, hE⟩ : ∃ G q, edgesV L7 = (G, q) := ⟨_, _, rfl⟩
          have HE := Lib.hid hE; clear hE
          go_wp2_with fail
          refine (edgI_lit HE.out _ _ R7.out).mono ?_; rintro e w15 ⟨⟨v8, rfl, n3⟩, hb15⟩
          have N3 := Lib.hid n3; clear n3
          replace bx := Lib.hid (bx.out.on (hb15))
          replace bz := Lib.hid (bz.out.on (hb15))
          replace R7 := Lib.hid (R7.out.on (hb15))
          have sz15 := Lib.hid (show w14.heap.size + 0 ≤ w15.heap.size by have := hb15.size; (try simp only [World.size_alloc] at this); omega)
          have Hb15 := Lib.hid (bthen (Hb14.out) hb15)
          clear hb15
          go_wp2_with fail
          refine (edgS_lit HE.out _ _ R7.out).mono ?_; rintro e w16 ⟨⟨v9, rfl, n4⟩, hb16⟩
          have N4 := Lib.hid n4; clear n4
          replace bx := Lib.hid (bx.out.on (hb16))
          replace bz := Lib.hid (bz.out.on (hb16))
          replace R7 := Lib.hid (R7.out.on (hb16))
          replace N3 := Lib.hid (N3.out.on (hb16))
          have sz16 := Lib.hid (show w15.heap.size + 0 ≤ w16.heap.size by have := hb16.size; (try simp only [World.size_alloc] at this); omega)
          have Hb16 := Lib.hid (bthen (Hb15.out) hb16)
          clear hb16
          go_wp2_with fail
          refine (sameL_same _ _ G7 _ N3.out N4.out).mono ?_; rintro e w17 ⟨rfl, hb17⟩
          replace bx := Lib.hid (bx.out.on (hb17))
          replace bz := Lib.hid (bz.out.on (hb17))
          replace R7 := Lib.hid (R7.out.on (hb17))
          replace N3 := Lib.hid (N3.out.on (hb17))
          replace N4 := Lib.hid (N4.out.on (hb17))
          have sz17 := Lib.hid (show w16.heap.size + 0 ≤ w17.heap.size by have := hb17.size; (try simp only [World.size_alloc] at this); omega)
          have Hb17 := Lib.hid (bthen (Hb16.out) hb17)
          clear hb17
          go_wp2
          go_ret
          exact ⟨rfl, Hb17.out⟩
        · have htt := HF2.out rfl
          rw [htt]
          clear htt HF2
          go_wp2_with fail
          refine (drawTwoIso_any B m d _ (Hb.out.on (HbR.out))).mono ?_; rintro e w11 ⟨⟨a1, b1, a2, b2, rfl⟩, hb11⟩
          have sz11 := Lib.hid (show wr.heap.size + 0 ≤ w11.heap.size by have := hb11.size; (try simp only [World.size_alloc] at this); omega)
          have Hb11 := Lib.hid (bthen (HbR.out) hb11)
          clear hb11
          obtain ⟨p1, q1, hV⟩ : ∃ p q, twoV a1 b1 a2 b2 = (p, q) := ⟨_, _, rfl⟩
          have HV := Lib.hid hV; clear hV
          go_wp2_with fail
          refine (twoI_lit HV.out _).mono ?_; rintro e w12 ⟨rfl, hb12⟩
          have bx := Lib.hid (((Blk.new w11 37 #[.int .i64 a1, .int .i64 b1]).alloc _).on hb12)
          have bz := Lib.hid ((Blk.new1 w11 _ 37 #[.int .i64 a2, .int .i64 b2]).on hb12)
          have sz12 := Lib.hid (show w11.heap.size + 2 ≤ w12.heap.size by have := hb12.size; (try simp only [World.size_alloc] at this); omega)
          have Hb12 := Lib.hid (bthen (bal (bal (Hb11.out) _) _) hb12)
          clear hb12
          have qbx_0 : w12.cell? ⟨w11.heap.size, 0, none⟩ = some (.int .i64 a1) := bx.out.cell 0
          have qbx_1 : w12.cell? ⟨w11.heap.size, 1, none⟩ = some (.int .i64 b1) := bx.out.cell 1
          have qbx_l := bx.out.lt
          have qbz_0 : w12.cell? ⟨w11.heap.size + 1, 0, none⟩ = some (.int .i64 a2) := bz.out.cell 0
          have qbz_1 : w12.cell? ⟨w11.heap.size + 1, 1, none⟩ = some (.int .i64 b2) := bz.out.cell 1
          have qbz_l := bz.out.lt
          go_wp2_with fail
          clear qbx_0 qbx_1 qbx_l qbz_0 qbz_1 qbz_l
          refine (twoS_lit HV.out _).mono ?_; rintro e w13 ⟨rfl, hb13⟩
          replace bx := Lib.hid (bx.out.on (hb13))
          replace bz := Lib.hid (bz.out.on (hb13))
          have sz13 := Lib.hid (show w12.heap.size + 0 ≤ w13.heap.size by have := hb13.size; (try simp only [World.size_alloc] at this); omega)
          have Hb13 := Lib.hid (bthen (Hb12.out) hb13)
          clear hb13
          go_wp2_with fail
          refine (drawEdges_any B m d _ (Hb.out.on (Hb13.out))).mono ?_; rintro e w14 ⟨⟨v7, m7, hm7, rfl, hv7⟩, hb14⟩
          obtain ⟨L7, hL7, ho7⟩ := hv7.cu
          have r7 := Rd.of_own (S := cuS) ho7 rfl
          clear hv7 hL7 ho7 hm7
          have R7 := Lib.hid r7; clear r7
          replace bx := Lib.hid (bx.out.on (hb14))
          replace bz := Lib.hid (bz.out.on (hb14))
          have sz14 := Lib.hid (show w13.heap.size + 0 ≤ w14.heap.size by have := hb14.size; (try simp only [World.size_alloc] at this); omega)
          have Hb14 := Lib.hid (bthen (Hb13.out) hb14)
          clear hb14
          obtain ⟨G7, q7, hE⟩ : ∃ G q, edgesV L7 = (G, q) := ⟨_, _, rfl⟩
          have HE := Lib.hid hE; clear hE
          go_wp2_with fail
          refine (edgI_lit HE.out _ _ R7.out).mono ?_; rintro e w15 ⟨⟨v8, rfl, n3⟩, hb15⟩
          have N3 := Lib.hid n3; clear n3
          replace bx := Lib.hid (bx.out.on (hb15))
          replace bz := Lib.hid (bz.out.on (hb15))
          replace R7 := Lib.hid (R7.out.on (hb15))
          have sz15 := Lib.hid (show w14.heap.size + 0 ≤ w15.heap.size by have := hb15.size; (try simp only [World.size_alloc] at this); omega)
          have Hb15 := Lib.hid (bthen (Hb14.out) hb15)
          clear hb15
          go_wp2_with fail
          refine (edgS_lit HE.out _ _ R7.out).mono ?_; rintro e w16 ⟨⟨v9, rfl, n4⟩, hb16⟩
          have N4 := Lib.hid n4; clear n4
          replace bx := Lib.hid (bx.out.on (hb16))
          replace bz := Lib.hid (bz.out.on (hb16))
          replace R7 := Lib.hid (R7.out.on (hb16))
          replace N3 := Lib.hid (N3.out.on (hb16))
          have sz16 := Lib.hid (show w15.heap.size + 0 ≤ w16.heap.size by have := hb16.size; (try simp only [World.size_alloc] at this); omega)
          have Hb16 := Lib.hid (bthen (Hb15.out) hb16)
          clear hb16
          go_wp2_with fail
          refine (sameL_same _ _ G7 _ N3.out N4.out).mono ?_; rintro e w17 ⟨rfl, hb17⟩
          replace bx := Lib.hid (bx.out.on (hb17))
          replace bz := Lib.hid (bz.out.on (hb17))
          replace R7 := Lib.hid (R7.out.on (hb17))
          replace N3 := Lib.hid (N3.out.on (hb17))
          replace N4 := Lib.hid (N4.out.on (hb17))
          have sz17 := Lib.hid (show w16.heap.size + 0 ≤ w17.heap.size by have := hb17.size; (try simp only [World.size_alloc] at this); omega)
          have Hb17 := Lib.hid (bthen (Hb16.out) hb17)
          clear hb17
          go_wp2
          go_ret
          exact ⟨rfl, Hb17.out⟩
  · clear hbg
    go_wp2
    go_ret
    exact ⟨rfl, Hb1.out⟩
end Go.Proofs.Ytnhgdmhiblpknaa
