/- Own texts put together: The reference's draws of a task, and of a task and an int; Own lemmas that know no program: a slice of slices of the call's own, and one that reads as a list of lists; A slice of slices of ints that lie in rows of a call's own: what is known of it behind draws, calls, stores, appends. Conditions: those of each theorem. -/
import Derived.Test.YtnhgdmhiblpknaaGreatDoorWkM6
import Derived.Test.YtnhgdmhiblpknaaGreatDoorWkM1
import Derived.Test.YtnhgdmhiblpknaaGreatDoorWkM4
namespace Go.Proofs.YtnhgdmhiblpknaaGreatDoor
section
open Go Go.RowKit

/-- A task whose points are a row of a call's own, and an int. -/
structure TkI (w : World) (B : Nat) (e : Ending) : Prop where
  ex : ∃ (a b m d t : Int) (v : Value) (n : Nat) (x : Int), n ≤ 4011 ∧ e = .returned (.tuple #[.agg #[.int .i64 a, .int .i64 b, .int .i64 m, .int .i64 d, .int .i64 t, v], .int .i64 x]) ∧ IR w B 117 3 v n ∧ (-1 ≤ x ∧ x ≤ 5001)
structure TkO (w : World) (B : Nat) (e : Ending) : Prop where
  ex : ∃ (a b m d t : Int) (v : Value) (n : Nat), n ≤ 4011 ∧ e = .returned (.agg #[.int .i64 a, .int .i64 b, .int .i64 m, .int .i64 d, .int .i64 t, v]) ∧ IR w B 117 3 v n

set_option linter.unusedSimpArgs false in
set_option maxRecDepth 8000 in
set_option maxHeartbeats 16000000 in
theorem drawRanges_any (A : Option Addr) (n c : Nat) (w : World) (hby : BytesAt w w.heap.size A n) :
    Calls Tryz.prog 27 #[.slice A n c] w fun e w' => TkI w' w.heap.size e ∧ Below w.heap.size w w' := by
  have Hb := Lib.hid hby; clear hby
  have Hgl := Lib.hid (Nat.le_refl w.heap.size)
  have Hd := Lib.hid (Dg.refl (w.heap.size + 1) w)
  go_enter Tryz.func27, Tryz.ntmps27
  go_wp2_with fail
  refine (task_any (w.heap.size + 1) 0 _ (Cur.new1 Hb.out c _) (by omega)).mono ?_; rintro e w1 ⟨⟨a, b, m, e9, t, v, nv, hnv, rfl, hv⟩, hc1, hd1⟩
  have S1 := Lib.hid (show w.heap.size + 2 ≤ w1.heap.size by have h9 := hd1.size; (try simp only [World.size_alloc, World.size_setCell] at h9); omega)
  have NR := Lib.hid (((Blk.new w 51 #[.int .i64 0, .int .i64 0, .int .i64 0, .int .i64 0, .int .i64 0, .slice none 0 0]).alloc (Obj.cells #[.slice A n c, .int .i64 0, .int .u64 0] 78)).dg hd1 (show w.heap.size ≠ (w.heap.size + 1) by have := Hgl.out; have := S1.out; omega))
  have R := NR; clear NR
  have Hc1 := Lib.hid (hc1.mono (j := 0 + 100) (by omega))
  have Hd1 := Lib.hid (((Hd.out.alloc (Obj.cells #[.int .i64 0, .int .i64 0, .int .i64 0, .int .i64 0, .int .i64 0, .slice none 0 0] 51)).alloc (Obj.cells #[.slice A n c, .int .i64 0, .int .u64 0] 78)).trans hd1)
  clear hc1 hd1
  have HV := Lib.hid (hv.mono (B' := w.heap.size + 2) (by simp)); have GHV := Lib.hid (IR.lt (hv.mono (B' := w.heap.size + 2) (by simp)))
  clear hv
  obtain ⟨A9, c9, rfl, -, -⟩ := HV.out.form
  go_wp2_with fail
  refine (among_lit (w.heap.size + 1) (0 + 100) (w1.heap.size) [0, 9] w1 (by simp) Hc1.out (by simp) (by simp) (by omega)).mono ?_; rintro e w2 ⟨⟨x0, hx0, rfl⟩, hc2, hd2⟩
  have S2 := Lib.hid (show w1.heap.size + 1 ≤ w2.heap.size by have h9 := hd2.size; (try simp only [World.size_alloc, World.size_setCell] at h9); omega)
  have NR := Lib.hid ((R.out.alloc _).dg hd2 (show w.heap.size ≠ (w.heap.size + 1) by have := Hgl.out; have := S1.out; have := S2.out; omega))
  have R := NR; clear NR
  have HV := Lib.hid ((HV.out.alloc _).dg hd2 (show (w.heap.size + 1) < (w.heap.size + 2) by have := Hgl.out; have := S1.out; have := S2.out; omega))
  have Hc2 := Lib.hid (hc2.mono (j := 0 + 102) (by omega))
  have Hd2 := Lib.hid ((Hd1.out.alloc _).trans hd2)
  clear hc2 hd2
  have B0 := Lib.hid (ag2 hx0 (lo := -1) (hi := 5001) (by simp))
  clear hx0
  go_wp2_with fail
  refine (among_lit (w.heap.size + 1) (0 + 102) (w2.heap.size) [1, 2, 3, 5, 8, x0] w2 (by simp) Hc2.out (by simp) (by simp) (by omega)).mono ?_; rintro e w3 ⟨⟨x1, hx1, rfl⟩, hc3, hd3⟩
  have S3 := Lib.hid (show w2.heap.size + 1 ≤ w3.heap.size by have h9 := hd3.size; (try simp only [World.size_alloc, World.size_setCell] at h9); omega)
  have NR := Lib.hid ((R.out.alloc _).dg hd3 (show w.heap.size ≠ (w.heap.size + 1) by have := Hgl.out; have := S1.out; have := S2.out; have := S3.out; omega))
  have R := NR; clear NR
  have HV := Lib.hid ((HV.out.alloc _).dg hd3 (show (w.heap.size + 1) < (w.heap.size + 2) by have := Hgl.out; have := S1.out; have := S2.out; have := S3.out; omega))
  have Hc3 := Lib.hid (hc3.mono (j := 0 + 104) (by omega))
  have Hd3 := Lib.hid ((Hd2.out.alloc _).trans hd3)
  clear hc3 hd3
  have B1 := Lib.hid (ag2 hx1 (lo := -1) (hi := 5001) (by have := B0.out; simp; omega))
  clear hx1
  have qR0 := R.out.cell 0
  have qR1 := R.out.cell 1
  have qR2 := R.out.cell 2
  have qR3 := R.out.cell 3
  have qR4 := R.out.cell 4
  have qR5 := R.out.cell 5
  simp at qR0 qR1 qR2 qR3 qR4 qR5
  have qRl := R.out.lt
  have qRf := R.out.frozen
  go_wp2
  clear qR0 qR1 qR2 qR3 qR4 qR5 qRl qRf
  have HR9 := (show Blk (World.setCell (World.setCell (World.setCell (World.setCell (World.setCell (World.setCell w3 ⟨w.heap.size, 0, none⟩ (.int .i64 a)) ⟨w.heap.size, 1, none⟩ (.int .i64 b)) ⟨w.heap.size, 2, none⟩ (.int .i64 m)) ⟨w.heap.size, 3, none⟩ (.int .i64 e9)) ⟨w.heap.size, 4, none⟩ (.int .i64 t)) ⟨w.heap.size, 5, none⟩ (.slice A9 nv c9)) (w.heap.size) 51 #[.int .i64 a, .int .i64 b, .int .i64 m, .int .i64 e9, .int .i64 t, .slice A9 nv c9] by have h9 := ((((((R.out.set 0 (.int .i64 a)).set 1 (.int .i64 b)).set 2 (.int .i64 m)).set 3 (.int .i64 e9)).set 4 (.int .i64 t)).set 5 (.slice A9 nv c9)); simpa using h9)
  have k0 := HR9.cell 0
  have k1 := HR9.cell 1
  have k2 := HR9.cell 2
  have k3 := HR9.cell 3
  have k4 := HR9.cell 4
  have k5 := HR9.cell 5
  simp at k0 k1 k2 k3 k4 k5
  exact bodyPost_ret (v := .tuple #[.agg #[.int .i64 a, .int .i64 b, .int .i64 m, .int .i64 e9, .int .i64 t, .slice A9 nv c9], .int .i64 x1]) (by simp [results, Tryz.results27, go_sem, k0, k1, k2, k3, k4, k5]) rfl ⟨⟨_, _, _, _, _, .slice A9 nv c9, nv, x1, hnv, rfl, ((((((HV.out.st (p := ⟨w.heap.size, 0, none⟩) (by intro k9 hk9; have := GHV.out k9 hk9; show k9 ≠ w.heap.size; have := Hgl.out; have := S1.out; have := S2.out; have := S3.out; omega) (.int .i64 a)).st (p := ⟨w.heap.size, 1, none⟩) (by intro k9 hk9; have := GHV.out k9 hk9; show k9 ≠ w.heap.size; have := Hgl.out; have := S1.out; have := S2.out; have := S3.out; omega) (.int .i64 b)).st (p := ⟨w.heap.size, 2, none⟩) (by intro k9 hk9; have := GHV.out k9 hk9; show k9 ≠ w.heap.size; have := Hgl.out; have := S1.out; have := S2.out; have := S3.out; omega) (.int .i64 m)).st (p := ⟨w.heap.size, 3, none⟩) (by intro k9 hk9; have := GHV.out k9 hk9; show k9 ≠ w.heap.size; have := Hgl.out; have := S1.out; have := S2.out; have := S3.out; omega) (.int .i64 e9)).st (p := ⟨w.heap.size, 4, none⟩) (by intro k9 hk9; have := GHV.out k9 hk9; show k9 ≠ w.heap.size; have := Hgl.out; have := S1.out; have := S2.out; have := S3.out; omega) (.int .i64 t)).st (p := ⟨w.heap.size, 5, none⟩) (by intro k9 hk9; have := GHV.out k9 hk9; show k9 ≠ w.heap.size; have := Hgl.out; have := S1.out; have := S2.out; have := S3.out; omega) (.slice A9 nv c9)).mono (by omega), B1.out⟩, ((((((Hd3.out.st (p := ⟨w.heap.size, 0, none⟩) (show w.heap.size ≤ w.heap.size by have := Hgl.out; have := S1.out; have := S2.out; have := S3.out; omega) (.int .i64 a)).st (p := ⟨w.heap.size, 1, none⟩) (show w.heap.size ≤ w.heap.size by have := Hgl.out; have := S1.out; have := S2.out; have := S3.out; omega) (.int .i64 b)).st (p := ⟨w.heap.size, 2, none⟩) (show w.heap.size ≤ w.heap.size by have := Hgl.out; have := S1.out; have := S2.out; have := S3.out; omega) (.int .i64 m)).st (p := ⟨w.heap.size, 3, none⟩) (show w.heap.size ≤ w.heap.size by have := Hgl.out; have := S1.out; have := S2.out; have := S3.out; omega) (.int .i64 e9)).st (p := ⟨w.heap.size, 4, none⟩) (show w.heap.size ≤ w.heap.size by have := Hgl.out; have := S1.out; have := S2.out; have := S3.out; omega) (.int .i64 t)).st (p := ⟨w.heap.size, 5, none⟩) (show w.heap.size ≤ w.heap.size by have := Hgl.out; have := S1.out; have := S2.out; have := S3.out; omega) (.slice A9 nv c9)).below (by have := S1.out; have := S2.out; have := S3.out; omega) (Nat.le_refl _)⟩
set_option linter.unusedSimpArgs false in
set_option maxRecDepth 8000 in
set_option maxHeartbeats 16000000 in
theorem drawIsTask_any (A : Option Addr) (n c : Nat) (w : World) (hby : BytesAt w w.heap.size A n) :
    Calls Tryz.prog 97 #[.slice A n c] w fun e w' => TkO w' w.heap.size e ∧ Below w.heap.size w w' := by
  have Hb := Lib.hid hby; clear hby
  have Hgl := Lib.hid (Nat.le_refl w.heap.size)
  have Hd := Lib.hid (Dg.refl (w.heap.size + 1) w)
  go_enter Tryz.func97, Tryz.ntmps97
  go_wp2_with fail
  refine (task_any (w.heap.size + 1) 0 _ (Cur.new1 Hb.out c _) (by omega)).mono ?_; rintro e w1 ⟨⟨a, b, m, e9, t, v, nv, hnv, rfl, hv⟩, hc1, hd1⟩
  have S1 := Lib.hid (show w.heap.size + 2 ≤ w1.heap.size by have h9 := hd1.size; (try simp only [World.size_alloc, World.size_setCell] at h9); omega)
  have NR := Lib.hid (((Blk.new w 51 #[.int .i64 0, .int .i64 0, .int .i64 0, .int .i64 0, .int .i64 0, .slice none 0 0]).alloc (Obj.cells #[.slice A n c, .int .i64 0, .int .u64 0] 78)).dg hd1 (show w.heap.size ≠ (w.heap.size + 1) by have := Hgl.out; have := S1.out; omega))
  have R := NR; clear NR
  have Hc1 := Lib.hid (hc1.mono (j := 0 + 100) (by omega))
  have Hd1 := Lib.hid (((Hd.out.alloc (Obj.cells #[.int .i64 0, .int .i64 0, .int .i64 0, .int .i64 0, .int .i64 0, .slice none 0 0] 51)).alloc (Obj.cells #[.slice A n c, .int .i64 0, .int .u64 0] 78)).trans hd1)
  clear hc1 hd1
  have HV := Lib.hid (hv.mono (B' := w.heap.size + 2) (by simp)); have GHV := Lib.hid (IR.lt (hv.mono (B' := w.heap.size + 2) (by simp)))
  clear hv
  obtain ⟨A9, c9, rfl, -, -⟩ := HV.out.form
  have qR0 := R.out.cell 0
  have qR1 := R.out.cell 1
  have qR2 := R.out.cell 2
  have qR3 := R.out.cell 3
  have qR4 := R.out.cell 4
  have qR5 := R.out.cell 5
  simp at qR0 qR1 qR2 qR3 qR4 qR5
  have qRl := R.out.lt
  have qRf := R.out.frozen
  go_wp2
  clear qR0 qR1 qR2 qR3 qR4 qR5 qRl qRf
  have HR9 := (show Blk (World.setCell (World.setCell (World.setCell (World.setCell (World.setCell (World.setCell w1 ⟨w.heap.size, 0, none⟩ (.int .i64 a)) ⟨w.heap.size, 1, none⟩ (.int .i64 b)) ⟨w.heap.size, 2, none⟩ (.int .i64 m)) ⟨w.heap.size, 3, none⟩ (.int .i64 e9)) ⟨w.heap.size, 4, none⟩ (.int .i64 t)) ⟨w.heap.size, 5, none⟩ (.slice A9 nv c9)) (w.heap.size) 51 #[.int .i64 a, .int .i64 b, .int .i64 m, .int .i64 e9, .int .i64 t, .slice A9 nv c9] by have h9 := ((((((R.out.set 0 (.int .i64 a)).set 1 (.int .i64 b)).set 2 (.int .i64 m)).set 3 (.int .i64 e9)).set 4 (.int .i64 t)).set 5 (.slice A9 nv c9)); simpa using h9)
  have k0 := HR9.cell 0
  have k1 := HR9.cell 1
  have k2 := HR9.cell 2
  have k3 := HR9.cell 3
  have k4 := HR9.cell 4
  have k5 := HR9.cell 5
  simp at k0 k1 k2 k3 k4 k5
  exact bodyPost_ret (v := .agg #[.int .i64 a, .int .i64 b, .int .i64 m, .int .i64 e9, .int .i64 t, .slice A9 nv c9]) (by simp [results, Tryz.results97, go_sem, k0, k1, k2, k3, k4, k5]) rfl ⟨⟨_, _, _, _, _, .slice A9 nv c9, nv, hnv, rfl, ((((((HV.out.st (p := ⟨w.heap.size, 0, none⟩) (by intro k9 hk9; have := GHV.out k9 hk9; show k9 ≠ w.heap.size; have := Hgl.out; have := S1.out; omega) (.int .i64 a)).st (p := ⟨w.heap.size, 1, none⟩) (by intro k9 hk9; have := GHV.out k9 hk9; show k9 ≠ w.heap.size; have := Hgl.out; have := S1.out; omega) (.int .i64 b)).st (p := ⟨w.heap.size, 2, none⟩) (by intro k9 hk9; have := GHV.out k9 hk9; show k9 ≠ w.heap.size; have := Hgl.out; have := S1.out; omega) (.int .i64 m)).st (p := ⟨w.heap.size, 3, none⟩) (by intro k9 hk9; have := GHV.out k9 hk9; show k9 ≠ w.heap.size; have := Hgl.out; have := S1.out; omega) (.int .i64 e9)).st (p := ⟨w.heap.size, 4, none⟩) (by intro k9 hk9; have := GHV.out k9 hk9; show k9 ≠ w.heap.size; have := Hgl.out; have := S1.out; omega) (.int .i64 t)).st (p := ⟨w.heap.size, 5, none⟩) (by intro k9 hk9; have := GHV.out k9 hk9; show k9 ≠ w.heap.size; have := Hgl.out; have := S1.out; omega) (.slice A9 nv c9)).mono (by omega)⟩, ((((((Hd1.out.st (p := ⟨w.heap.size, 0, none⟩) (show w.heap.size ≤ w.heap.size by have := Hgl.out; have := S1.out; omega) (.int .i64 a)).st (p := ⟨w.heap.size, 1, none⟩) (show w.heap.size ≤ w.heap.size by have := Hgl.out; have := S1.out; omega) (.int .i64 b)).st (p := ⟨w.heap.size, 2, none⟩) (show w.heap.size ≤ w.heap.size by have := Hgl.out; have := S1.out; omega) (.int .i64 m)).st (p := ⟨w.heap.size, 3, none⟩) (show w.heap.size ≤ w.heap.size by have := Hgl.out; have := S1.out; omega) (.int .i64 e9)).st (p := ⟨w.heap.size, 4, none⟩) (show w.heap.size ≤ w.heap.size by have := Hgl.out; have := S1.out; omega) (.int .i64 t)).st (p := ⟨w.heap.size, 5, none⟩) (show w.heap.size ≤ w.heap.size by have := Hgl.out; have := S1.out; omega) (.slice A9 nv c9)).below (by have := S1.out; omega) (Nat.le_refl _)⟩
end
section
open Go Go.RowKit

def slS : Shape Value := ⟨1, fun v _ => v, .slice none 0 0⟩
theorem slS_flat : ∀ vs : List Value, slS.flat vs = vs
  | [] => rfl
  | v :: vs => by
    have ih := slS_flat vs
    simp only [Shape.flat, List.flatMap_cons] at ih ⊢
    rw [ih]; rfl
theorem inS_flat : ∀ es : List Int, inS.flat es = es.map (Value.int .i64)
  | [] => rfl
  | e :: es => by
    have ih := inS_flat es
    simp only [Shape.flat, List.flatMap_cons] at ih ⊢
    rw [ih]; rfl

/-- The k-th of a list of values, of a list of lists. -/
def vat (vs : List Value) (k : Nat) : Value := vs.getD k (.slice none 0 0)
def cat' {E : Type} (css : List (List E)) (k : Nat) : List E := css.getD k []
theorem vat_app_lt {vs ws : List Value} {k : Nat} (h : k < vs.length) : vat (vs ++ ws) k = vat vs k := by
  unfold vat; rw [List.getD_eq_getElem?_getD, List.getD_eq_getElem?_getD, List.getElem?_append_left h]
theorem vat_app_eq {vs : List Value} {u : Value} {k : Nat} (h : k = vs.length) : vat (vs ++ [u]) k = u := by
  subst h; unfold vat; rw [List.getD_eq_getElem?_getD, List.getElem?_append_right (Nat.le_refl _)]; simp
theorem cat_app_lt {E : Type} {vs ws : List (List E)} {k : Nat} (h : k < vs.length) : cat' (vs ++ ws) k = cat' vs k := by
  unfold cat'; rw [List.getD_eq_getElem?_getD, List.getD_eq_getElem?_getD, List.getElem?_append_left h]
theorem cat_app_eq {E : Type} {vs : List (List E)} {u : List E} {k : Nat} (h : k = vs.length) : cat' (vs ++ [u]) k = u := by
  subst h; unfold cat'; rw [List.getD_eq_getElem?_getD, List.getElem?_append_right (Nat.le_refl _)]; simp

/-- A slice of slices that the call made: te is the slices' type, ti their elements'; all its blocks lie from base on and below hi, and no two of them are one. -/
structure NOwn (w : World) (te ti : TypeId) (base hi : Nat) (v : Value) (vs : List Value) (css : List (List Value)) : Prop where
  len : vs.length = css.length
  out : w.ownsRow base te 1 v css.length vs
  row : ∀ i, i < css.length → w.ownsRow base ti 1 (vat vs i) (cat' css i).length (cat' css i)
  apart : ∀ i j g, i < css.length → j < css.length → i ≠ j → (vat vs i).ownBlock = some g → (vat vs j).ownBlock = some g → False
  top : ∀ i g, i < css.length → (vat vs i).ownBlock = some g → v.ownBlock = some g → False
  vhi : ∀ g, v.ownBlock = some g → g < hi
  ihi : ∀ i g, i < css.length → (vat vs i).ownBlock = some g → g < hi

theorem own_ne {u v : Value} (H : ∀ k, v.ownBlock = some k → u.ownBlock = some k → False) : v.ownBlock = none ∨ v.ownBlock ≠ u.ownBlock := by
  cases h : v.ownBlock with
  | none => exact .inl rfl
  | some k => exact .inr (fun e => H k h e.symm)
section
variable {w w' : World} {te ti : TypeId} {base hi : Nat} {v : Value} {vs : List Value} {css : List (List Value)}
theorem NOwn.nil (w : World) (te ti : TypeId) (base hi : Nat) : NOwn w te ti base hi (.slice none 0 0) [] [] where
  len := rfl
  out := ⟨rfl, Or.inl ⟨rfl, rfl⟩⟩
  row i h := absurd h (by simp)
  apart i j g h := absurd h (by simp)
  top i g h := absurd h (by simp)
  vhi g h := absurd h (by simp [Value.ownBlock])
  ihi i g h := absurd h (by simp)
theorem NOwn.on (h : NOwn w te ti base hi v vs css) (hb : Below w.heap.size w w') : NOwn w' te ti base hi v vs css :=
  ⟨h.len, own_below h.out hb, fun i hi => own_below (h.row i hi) hb, h.apart, h.top, h.vhi, h.ihi⟩
theorem NOwn.more {hi' : Nat} (h : NOwn w te ti base hi v vs css) (hh : hi ≤ hi') : NOwn w te ti base hi' v vs css :=
  ⟨h.len, h.out, h.row, h.apart, h.top, fun g hg => Nat.lt_of_lt_of_le (h.vhi g hg) hh, fun i g hi hg => Nat.lt_of_lt_of_le (h.ihi i g hi hg) hh⟩
theorem NOwn.less {base' : Nat} (h : NOwn w te ti base hi v vs css) (hh : base' ≤ base) : NOwn w te ti base' hi v vs css :=
  ⟨h.len, own_mono h.out hh, fun i hi => own_mono (h.row i hi) hh, h.apart, h.top, h.vhi, h.ihi⟩
/-- Behind a change of one block that is none of its own. -/
theorem NOwn.kept {row : Option Nat} (h : NOwn w te ti base hi v vs css) (hg : w.grownBy w' row) (hr : ∀ g, row = some g → g < base ∨ hi ≤ g) : NOwn w' te ti base hi v vs css := by
  have key : ∀ u : Value, (∀ g, u.ownBlock = some g → base ≤ g ∧ g < hi) → u.ownBlock = none ∨ u.ownBlock ≠ row := by
    intro u hu
    cases hub : u.ownBlock with
    | none => exact .inl rfl
    | some k =>
      refine .inr (fun e => ?_)
      have h1 := hu k hub
      have h2 := hr k e.symm
      omega
  exact ⟨h.len, World.ownsRow.kept h.out hg (key v (fun g hb => ⟨(h.out.lt g hb).1, h.vhi g hb⟩)), fun i hi2 => World.ownsRow.kept (h.row i hi2) hg (key _ (fun g hb => ⟨((h.row i hi2).lt g hb).1, h.ihi i g hi2 hb⟩)), h.apart, h.top, h.vhi, h.ihi⟩
/-- One slice more, behind the append of it: 'u' lies in a block of its own. -/
theorem NOwn.snoc {v' u : Value} {c : List Value} {w0 : World} (h : NOwn w0 te ti base hi v vs css) (hg : w0.grownBy w' v.ownBlock) (hout : w'.ownsRow base te 1 v' (css.length + 1) (vs ++ [u])) (hat : v'.ownBlock = v.ownBlock ∨ v'.ownBlock = some w0.heap.size)
    (hu : w0.ownsRow base ti 1 u c.length c) (hu1 : ∀ g, u.ownBlock = some g → hi ≤ g ∧ g < w0.heap.size) (hhi : hi ≤ w0.heap.size) : NOwn w' te ti base w'.heap.size v' (vs ++ [u]) (css ++ [c]) := by
  have hvb : ∀ g, v'.ownBlock = some g → (v.ownBlock = some g) ∨ g = w0.heap.size := by
    intro g hgv
    rcases hat with h1 | h1
    · exact .inl (h1 ▸ hgv)
    · rw [h1] at hgv; injection hgv with hgv; exact .inr hgv.symm
  have hin : ∀ i, i < css.length → vat (vs ++ [u]) i = vat vs i := fun i hi2 => vat_app_lt (by rw [h.len]; exact hi2)
  have hlast : vat (vs ++ [u]) css.length = u := vat_app_eq h.len.symm
  have hlt : ∀ i g, i < css.length + 1 → (vat (vs ++ [u]) i).ownBlock = some g → (i < css.length ∧ (vat vs i).ownBlock = some g) ∨ (i = css.length ∧ u.ownBlock = some g) := by
    intro i g hi2 hb
    rcases Nat.lt_or_ge i css.length with h1 | h1
    · rw [hin i h1] at hb; exact .inl ⟨h1, hb⟩
    · obtain rfl : i = css.length := by omega
      rw [hlast] at hb; exact .inr ⟨rfl, hb⟩
  refine ⟨by rw [List.length_append, List.length_append, h.len]; rfl, by rw [List.length_append]; exact hout, ?_, ?_, ?_, ?_, ?_⟩
  · intro i hi2
    rw [List.length_append, List.length_singleton] at hi2
    rcases Nat.lt_or_ge i css.length with h1 | h1
    · rw [hin i h1, cat_app_lt h1]
      refine World.ownsRow.kept (h.row i h1) hg (own_ne (fun g hb hr => ?_))
      exact h.top i g h1 hb hr
    · obtain rfl : i = css.length := by omega
      rw [hlast, cat_app_eq rfl]
      refine World.ownsRow.kept hu hg (own_ne (fun g hb hr => ?_))
      have h2 := h.vhi g hr
      have h3 := (hu1 g hb).1
      omega
  · intro i j g hi2 hj2 hne h1 h2
    rw [List.length_append, List.length_singleton] at hi2 hj2
    rcases hlt i g hi2 h1 with ⟨a1, a2⟩ | ⟨a1, a2⟩ <;> rcases hlt j g hj2 h2 with ⟨b1, b2⟩ | ⟨b1, b2⟩
    · exact h.apart i j g a1 b1 hne a2 b2
    · have := h.ihi i g a1 a2; have := (hu1 g b2).1; omega
    · have := h.ihi j g b1 b2; have := (hu1 g a2).1; omega
    · omega
  · intro i g hi2 h1 h2
    rw [List.length_append, List.length_singleton] at hi2
    rcases hlt i g hi2 h1 with ⟨a1, a2⟩ | ⟨a1, a2⟩ <;> rcases hvb g h2 with b | b
    · exact h.top i g a1 a2 b
    · have := h.ihi i g a1 a2; omega
    · have := h.vhi g b; have := (hu1 g a2).1; omega
    · have := (hu1 g a2).2; omega
  · intro g h1
    exact (hout.lt g h1).2
  · intro i g hi2 h1
    rw [List.length_append, List.length_singleton] at hi2
    have hs := hg.size
    rcases hlt i g hi2 h1 with ⟨a1, a2⟩ | ⟨a1, a2⟩
    · have := h.ihi i g a1 a2; omega
    · have := (hu1 g a2).2; omega
end

/-- The slice value v reads, in the world w, as a list of lists of ints. -/
def NRd (w : World) (hi : Nat) (v : Value) (ess : List (List Int)) : Prop :=
  ∃ vs : List Value, vs.length = ess.length ∧ Rd slS w hi v vs ∧ ∀ i, i < ess.length → Rd inS w hi (vat vs i) (cat' ess i)
theorem NRd.on {w w' : World} {v : Value} {ess : List (List Int)} (h : NRd w w.heap.size v ess) (hb : Below w.heap.size w w') : NRd w' w'.heap.size v ess := by
  obtain ⟨vs, h1, h2, h3⟩ := h
  exact ⟨vs, h1, h2.on hb, fun i hi => (h3 i hi).on hb⟩
def cellsII (ess : List (List Int)) : List (List Value) := ess.map (fun es => es.map (Value.int .i64))
theorem cat_cellsII {ess : List (List Int)} {i : Nat} (h : i < ess.length) : cat' (cellsII ess) i = (cat' ess i).map (Value.int .i64) := by
  unfold cat' cellsII
  rw [List.getD_eq_getElem?_getD, List.getD_eq_getElem?_getD, List.getElem?_map, List.getElem?_eq_getElem h]; rfl
theorem NRd.of_own {w : World} {te ti : TypeId} {base hi : Nat} {v : Value} {vs : List Value} {ess : List (List Int)} (h : NOwn w te ti base hi v vs (cellsII ess)) : NRd w w.heap.size v ess := by
  have hl : (cellsII ess).length = ess.length := by simp [cellsII]
  refine ⟨vs, by rw [h.len, hl], Rd.of_own (S := slS) (n := (cellsII ess).length) (by rw [slS_flat]; exact h.out) h.len.symm, fun i hi2 => ?_⟩
  have h1 := h.row i (by rw [hl]; exact hi2)
  rw [cat_cellsII hi2] at h1
  exact Rd.of_own (S := inS) (n := ((cat' ess i).map (Value.int .i64)).length) (by rw [inS_flat]; exact h1) (by simp)

/-! ### Changes within a stretch of blocks -/
structure Mid (base hi : Nat) (w w' : World) : Prop where
  os : w'.os = w.os
  tape : w'.tape = w.tape
  output : w'.output = w.output
  size : w.heap.size ≤ w'.heap.size
  block : ∀ i, i < w.heap.size → (i < base ∨ hi ≤ i) → w'.heap[i]? = w.heap[i]?
section
variable {w w1 w2 : World} {base hi : Nat}
theorem Mid.refl (w : World) : Mid base hi w w := ⟨rfl, rfl, rfl, Nat.le_refl _, fun _ _ _ => rfl⟩
theorem Mid.trans (h : Mid base hi w w1) (k : Mid base hi w1 w2) : Mid base hi w w2 :=
  ⟨k.os.trans h.os, k.tape.trans h.tape, k.output.trans h.output, Nat.le_trans h.size k.size, fun i h1 h2 => (k.block i (Nat.lt_of_lt_of_le h1 h.size) h2).trans (h.block i h1 h2)⟩
theorem Mid.of_grown {row : Option Nat} (h : w.grownBy w1 row) (hr : ∀ g, row = some g → base ≤ g ∧ g < hi) : Mid base hi w w1 :=
  ⟨h.os, h.tape, h.output, h.size, fun i h1 h2 => h.block i h1 (fun e => by have := hr i e.symm; omega)⟩
theorem Mid.of_below (h : Below w.heap.size w w1) : Mid base hi w w1 := ⟨h.os, h.tape, h.output, h.size, fun i h1 _ => h.block i h1⟩
theorem Mid.below (h : Mid base hi w w1) {B : Nat} (hB : B ≤ base) (hs : base ≤ w.heap.size) : Below B w w1 := ⟨h.os, h.tape, h.output, h.size, fun i hi2 => h.block i (by omega) (.inl (by omega))⟩
/-- A row that lies without the stretch. -/
theorem Mid.own {b : Nat} {e : TypeId} {size : Nat} {v : Value} {n : Nat} {xs : List Value} (h : Mid base hi w w1) (ho : w.ownsRow b e size v n xs) (hr : ∀ g, v.ownBlock = some g → g < base ∨ hi ≤ g) : w1.ownsRow b e size v n xs := by
  refine ⟨ho.1, ?_⟩
  rcases ho.2 with h1 | ⟨g, cap, cur, h1, h2, h3, h4⟩
  · exact .inl h1
  · refine .inr ⟨g, cap, cur, h1, h2, ?_, h4⟩
    rw [h.block g (Array.getElem?_eq_some_iff.1 h3).1 (hr g (by rw [h1]; rfl))]
    exact h3
theorem Mid.blk {g : Nat} {t : TypeId} {cs : Array Value} (h : Mid base hi w w1) (hb : Blk w g t cs) (hr : g < base ∨ hi ≤ g) : Blk w1 g t cs := (h.block g hb.lt hr).trans hb
theorem Mid.nown {te ti : TypeId} {b2 hi2 : Nat} {v : Value} {vs : List Value} {css : List (List Value)} (h : Mid base hi w w1) (ho : NOwn w te ti b2 hi2 v vs css) (hr : hi2 ≤ base ∨ hi ≤ b2) : NOwn w1 te ti b2 hi2 v vs css :=
  ⟨ho.len, h.own ho.out (fun g hg => by have := ho.vhi g hg; have := (ho.out.lt g hg).1; omega), fun i hi3 => h.own (ho.row i hi3) (fun g hg => by have := ho.ihi i g hi3 hg; have := ((ho.row i hi3).lt g hg).1; omega), ho.apart, ho.top, ho.vhi, ho.ihi⟩
end

theorem vat_set_ne {E : Type} {css : List (List E)} {j i : Nat} {c : List E} (h : i ≠ j) : cat' (css.set j c) i = cat' css i := by
  unfold cat'
  rw [List.getD_eq_getElem?_getD, List.getD_eq_getElem?_getD, List.getElem?_set_ne (fun e => h e.symm)]
theorem vat_set_eq {E : Type} {css : List (List E)} {j : Nat} {c : List E} (h : j < css.length) : cat' (css.set j c) j = c := by
  unfold cat'
  rw [List.getD_eq_getElem?_getD, List.getElem?_set_self h]; rfl
/-- One row is written anew. -/
theorem NOwn.put {w w' : World} {te ti : TypeId} {base hi : Nat} {v : Value} {vs : List Value} {css : List (List Value)} (h : NOwn w te ti base hi v vs css) {j : Nat} (hj : j < css.length) {c : List Value} (hrow : w'.ownsRow base ti 1 (vat vs j) c.length c) (hg : w.grownBy w' (vat vs j).ownBlock) :
    NOwn w' te ti base hi v vs (css.set j c) := by
  have hl : (css.set j c).length = css.length := List.length_set
  refine ⟨by rw [hl, h.len], by rw [hl]; exact World.ownsRow.kept h.out hg (own_ne (fun g h1 h2 => h.top j g hj h2 h1)), ?_, ?_, ?_, h.vhi, ?_⟩
  · intro i hi2
    rw [hl] at hi2
    by_cases hij : i = j
    · subst hij
      rw [vat_set_eq hj]
      exact hrow
    · rw [vat_set_ne hij]
      exact World.ownsRow.kept (h.row i hi2) hg (own_ne (fun g h1 h2 => h.apart i j g hi2 hj hij h1 h2))
  · intro i k g hi2 hk2; rw [hl] at hi2 hk2; exact h.apart i k g hi2 hk2
  · intro i g hi2; rw [hl] at hi2; exact h.top i g hi2
  · intro i g hi2; rw [hl] at hi2; exact h.ihi i g hi2

/-! ### Marks in a slice of slices -/
def totL {E : Type} (css : List (List E)) : Nat := (css.map List.length).sum
def mkII (k0 : Int) : List (List Value) → List (List Value)
  | [] => []
  | c :: cs => marks k0 c.length :: mkII (k0 + c.length) cs
theorem length_mkII : ∀ (css : List (List Value)) (k0 : Int), (mkII k0 css).length = css.length
  | [], _ => rfl
  | c :: cs, k0 => by simp [mkII, length_mkII cs]
theorem totL_take_succ {E : Type} {css : List (List E)} {j : Nat} (h : j < css.length) : totL (css.take (j + 1)) = totL (css.take j) + (cat' css j).length := by
  unfold totL cat'
  rw [List.take_succ_eq_append_getElem h, List.map_append, List.sum_append, List.getD_eq_getElem?_getD, List.getElem?_eq_getElem h]
  simp
theorem totL_take_le {E : Type} (css : List (List E)) (j : Nat) : totL (css.take j) ≤ totL css := by
  have h : totL css = totL (css.take j) + totL (css.drop j) := by
    unfold totL
    rw [← List.sum_append, ← List.map_append, List.take_append_drop]
  omega
theorem cat_len_le {E : Type} (css : List (List E)) {j : Nat} (h : j < css.length) : (cat' css j).length ≤ totL css := by
  have h1 := totL_take_succ h
  have h2 := totL_take_le css (j + 1)
  omega
/-- The first j rows are marked. -/
theorem mkII_step : ∀ (css : List (List Value)) (k0 : Int) (j : Nat), j < css.length → (mkII k0 (css.take j) ++ css.drop j).set j (marks (k0 + totL (css.take j)) (cat' css j).length) = mkII k0 (css.take (j + 1)) ++ css.drop (j + 1)
  | [], _, _, h => by simp at h
  | c :: cs, k0, 0, _ => by simp [mkII, totL, cat']
  | c :: cs, k0, j + 1, h => by
    have ih := mkII_step cs (k0 + c.length) j (by simpa using h)
    have e : cat' (c :: cs) (j + 1) = cat' cs j := by simp [cat']
    have e2 : k0 + (totL ((c :: cs).take (j + 1)) : Int) = (k0 + c.length) + totL (cs.take j) := by
      simp only [totL, List.take_succ_cons, List.map_cons, List.sum_cons]
      omega
    rw [e, e2]
    simp only [List.take_succ_cons, mkII, List.cons_append, List.drop_succ_cons, List.set_cons_succ]
    rw [ih]
theorem mkII_cat : ∀ (css : List (List Value)) (k0 : Int) (j : Nat), j < css.length → cat' (mkII k0 css) j = marks (k0 + totL (css.take j)) (cat' css j).length
  | [], _, _, h => by simp at h
  | c :: cs, k0, 0, _ => by simp [mkII, totL, cat']
  | c :: cs, k0, j + 1, h => by
    have ih := mkII_cat cs (k0 + c.length) j (by simpa using h)
    have e : cat' (c :: cs) (j + 1) = cat' cs j := by simp [cat']
    have e3 : cat' (mkII k0 (c :: cs)) (j + 1) = cat' (mkII (k0 + c.length) cs) j := by simp [cat', mkII]
    have e2 : k0 + (totL ((c :: cs).take (j + 1)) : Int) = (k0 + c.length) + totL (cs.take j) := by
      simp only [totL, List.take_succ_cons, List.map_cons, List.sum_cons]
      omega
    rw [e, e2, e3, ih]
end
section
open Go Go.RowKit

/-- A row of ints of a call's own; its block lies from b on and below H. -/
structure In1 (w : World) (b H : Nat) (u : Value) : Prop where
  ex : ∃ es : List Int, w.ownsRow b 3 1 u es.length (es.map (Value.int .i64))
  lt : ∀ k, u.ownBlock = some k → k < H
/-- A row, from B on, of such rows. -/
structure LR (w : World) (B b H : Nat) (v : Value) (n : Nat) : Prop where
  ex : ∃ vs : List Value, w.ownsRow B 34 1 v n vs ∧ ∀ u ∈ vs, In1 w b H u
section
variable {w w' : World} {B b H H' n : Nat} {u v : Value}
theorem In1.ge (h : In1 w b H u) : ∀ k, u.ownBlock = some k → b ≤ k := let ⟨_, he⟩ := h.ex; fun k hk => (he.lt k hk).1
theorem In1.form (h : In1 w b H u) : ∃ A n c, u = .slice A n c := by
  obtain ⟨es, he⟩ := h.ex
  rcases he.2 with ⟨h1, -⟩ | ⟨g, cap, cur, h1, -⟩ <;> exact ⟨_, _, _, h1⟩
theorem In1.nil (w : World) (b H : Nat) : In1 w b H (.slice none 0 0) := ⟨⟨[], rfl, Or.inl ⟨rfl, rfl⟩⟩, fun k h => by simp [Value.ownBlock] at h⟩
theorem In1.on (h : In1 w b H u) (hb : Below w.heap.size w w') : In1 w' b H u := ⟨let ⟨es, he⟩ := h.ex; ⟨es, own_below he hb⟩, h.lt⟩
theorem In1.dg {g : Nat} (h : In1 w b H u) (hd : Dg g w w') (hg : g < b) : In1 w' b H u := ⟨let ⟨es, he⟩ := h.ex; ⟨es, own_dg he hd hg⟩, h.lt⟩
theorem In1.more (h : In1 w b H u) (hh : H ≤ H') : In1 w b H' u := ⟨h.ex, fun k hk => Nat.lt_of_lt_of_le (h.lt k hk) hh⟩
theorem In1.st (h : In1 w b H u) {p : Addr} (hp : p.block < b) (x : Value) : In1 (w.setCell p x) b H u :=
  ⟨let ⟨es, he⟩ := h.ex; ⟨es, own_st he (fun k hk => by have := (he.lt k hk).1; omega) x⟩, h.lt⟩
theorem In1.grown {row : Option Nat} (h : In1 w b H u) (hg : w.grownBy w' row) (hr : ∀ g, row = some g → H ≤ g) : In1 w' b H u := by
  obtain ⟨es, he⟩ := h.ex
  refine ⟨⟨es, World.ownsRow.kept he hg ?_⟩, h.lt⟩
  cases hu : u.ownBlock with
  | none => exact .inl rfl
  | some k => exact .inr (fun e => by have h1 := h.lt k hu; have h2 := hr k e.symm; omega)
/-- What is newer than the row that grew. -/
theorem In1.fresh {row : Option Nat} (h : In1 w b H u) (hg : w.grownBy w' row) (hr : ∀ g k, row = some g → u.ownBlock = some k → g < k) : In1 w' b H u := by
  obtain ⟨es, he⟩ := h.ex
  refine ⟨⟨es, World.ownsRow.kept he hg ?_⟩, h.lt⟩
  cases hu : u.ownBlock with
  | none => exact .inl rfl
  | some k => exact .inr (fun e => by have h2 := hr k k e.symm hu; omega)
theorem In1.rd (h : In1 w b H u) : ∃ es : List Int, Rd inS w w.heap.size u es := let ⟨es, he⟩ := h.ex; ⟨es, Rd.of_own (S := inS) (by rw [inS_flat]; exact he) rfl⟩
theorem In1.lit (w : World) (es : List Int) (hb : b ≤ w.heap.size) (hl : es.length ≤ 1000) : In1 (w.alloc (.cells (es.map (Value.int .i64)).toArray 3)) b (w.heap.size + 1) (.slice (some ⟨w.heap.size, 0, none⟩) es.length es.length) := by
  refine ⟨⟨es, ?_⟩, fun k hk => by simp [Value.ownBlock] at hk; omega⟩
  have h := World.ownsRow_lit (e := 3) (size := 1) (base := b) w (es.map (Value.int .i64)).toArray es.length hb (by unfold maxLen; omega) (by simp)
  simpa using h

theorem LR.nil (w : World) (B b H : Nat) : LR w B b H (.slice none 0 0) 0 := ⟨[], ⟨rfl, Or.inl ⟨rfl, rfl⟩⟩, fun u h => by cases h⟩
theorem LR.on (h : LR w B b H v n) (hb : Below w.heap.size w w') : LR w' B b H v n := let ⟨vs, h1, h2⟩ := h.ex; ⟨vs, own_below h1 hb, fun u hu => (h2 u hu).on hb⟩
theorem LR.dg {g : Nat} (h : LR w B b H v n) (hd : Dg g w w') (hg : g < b) (hB : g < B) : LR w' B b H v n := let ⟨vs, h1, h2⟩ := h.ex; ⟨vs, own_dg h1 hd hB, fun u hu => (h2 u hu).dg hd hg⟩
theorem LR.mono {B' : Nat} (h : LR w B b H v n) (hb : B' ≤ B) : LR w B' b H v n := let ⟨vs, h1, h2⟩ := h.ex; ⟨vs, own_mono h1 hb, h2⟩
theorem LR.alloc (h : LR w B b H v n) (o : Obj) : LR (w.alloc o) B b H v n := h.on (bal (Below.refl _ _) o)
theorem LR.st (h : LR w B b H v n) {p : Addr} (hp : p.block < b) (hq : p.block < B) (x : Value) : LR (w.setCell p x) B b H v n :=
  let ⟨vs, h1, h2⟩ := h.ex; ⟨vs, own_st h1 (fun k hk => by have := (h1.lt k hk).1; omega) x, fun u hu => (h2 u hu).st hp x⟩
theorem LR.lt (h : LR w B b H v n) : ∀ k, v.ownBlock = some k → B ≤ k ∧ k < w.heap.size := let ⟨_, h1, _⟩ := h.ex; World.ownsRow.lt h1
theorem LR.form (h : LR w B b H v n) : (v = .slice none 0 0 ∧ n = 0) ∨ ∃ g c, v = .slice (some ⟨g, 0, none⟩) n c ∧ B ≤ g ∧ g < w.heap.size ∧ n ≤ c ∧ c ≤ maxLen := by
  obtain ⟨vs, h1, -⟩ := h.ex
  rcases h1.2 with ⟨h2, h3⟩ | ⟨g, cap, cur, h2, h3, h4, h5, h6, -, -⟩
  · exact .inl ⟨h2, h3⟩
  · exact .inr ⟨g, cap, h2, h3, (Array.getElem?_eq_some_iff.1 h4).1, h5, h6⟩
theorem LR.cell {g c : Nat} (h : LR w B b H (.slice (some ⟨g, 0, none⟩) n c) n) {j : Nat} (hj : j < n) : ∃ u, w.cell? ⟨g, j, none⟩ = some u ∧ In1 w b H u := by
  obtain ⟨vs, h1, h2⟩ := h.ex
  have hl : j < vs.length := by rw [h1.1]; omega
  exact ⟨vs[j], by rw [h1.cellAt j (by omega), List.getElem?_eq_getElem hl], h2 _ (List.getElem_mem hl)⟩
/-- A row that has grown by some elements, in its place or anew. -/
theorem LR.app {v' : Value} {m : Nat} {vs news : List Value} {row : Option Nat} (ho : w'.ownsRow B 34 1 v' (n + m) (vs ++ news)) (h1 : ∀ u ∈ vs, In1 w b H u) (hg : w.grownBy w' row) (hr : ∀ g, row = some g → H ≤ g)
    (h2 : ∀ u ∈ news, In1 w' b H' u) (hH : H ≤ H') : LR w' B b H' v' (n + m) :=
  ⟨vs ++ news, ho, fun u hu => by
    rcases List.mem_append.1 hu with hu | hu
    · exact ((h1 u hu).grown hg hr).more hH
    · exact h2 u hu⟩
/-- One element put in, behind three appends to a new row. -/
theorem LR.ins {v' u0 : Value} {k d : Nat} {vs X Y : List Value} (hb : Below w.heap.size w w') (ho : w'.ownsRow w.heap.size 34 1 v' (0 + k + 1 + d) ([] ++ X ++ [u0] ++ Y)) (h1 : ∀ u ∈ vs, In1 w b H u) (hu : In1 w b H u0) (hX : ∀ u ∈ X, u ∈ vs) (hY : ∀ u ∈ Y, u ∈ vs) :
    LR w' w.heap.size b H v' (0 + k + 1 + d) :=
  ⟨_, ho, fun u hu9 => by
    simp only [List.nil_append, List.mem_append, List.mem_singleton] at hu9
    rcases hu9 with (h | rfl) | h
    · exact (h1 u (hX u h)).on hb
    · exact hu.on hb
    · exact (h1 u (hY u h)).on hb⟩
theorem LR.of_nown {te ti : TypeId} {hi : Nat} {vs : List Value} {ess : List (List Int)} (h : NOwn w te ti b hi v vs (cellsII ess)) (hte : te = 34) (hti : ti = 3) : LR w b b hi v ess.length := by
  subst hte hti
  have hl : (cellsII ess).length = ess.length := by simp [cellsII]
  have ho := h.out
  rw [hl] at ho
  refine ⟨vs, ho, fun u hu => ?_⟩
  obtain ⟨i, hi2, rfl⟩ := List.getElem_of_mem hu
  have hi3 : i < ess.length := by rw [← hl, ← h.len]; exact hi2
  have hv : vat vs i = vs[i] := by unfold vat; rw [List.getD_eq_getElem?_getD, List.getElem?_eq_getElem hi2]; rfl
  have h1 := h.row i (by rw [hl]; exact hi3)
  rw [cat_cellsII hi3, hv, List.length_map] at h1
  exact ⟨⟨_, h1⟩, fun k hk => h.ihi i k (by rw [hl]; exact hi3) (by rw [hv]; exact hk)⟩
theorem IR.grownL {t : TypeId} {z : Nat} {row : Option Nat} (h : IR w B t z v n) (hg : w.grownBy w' row) (hr : ∀ g k, row = some g → v.ownBlock = some k → k < g) : IR w' B t z v n := by
  obtain ⟨xs, h1, h2⟩ := h.ex
  refine ⟨xs, World.ownsRow.kept h1 hg ?_, h2⟩
  cases hv : v.ownBlock with
  | none => exact .inl rfl
  | some k => exact .inr (fun e => by have := hr k k e.symm hv; omega)
theorem rd_all : ∀ (vs : List Value), (∀ u ∈ vs, ∃ es : List Int, Rd inS w w.heap.size u es) → ∃ ess : List (List Int), vs.length = ess.length ∧ ∀ i, i < ess.length → Rd inS w w.heap.size (vat vs i) (cat' ess i)
  | [], _ => ⟨[], rfl, fun i h => absurd h (Nat.not_lt_zero _)⟩
  | u :: vs, h => by
    obtain ⟨es, he⟩ := h u (List.mem_cons_self ..)
    obtain ⟨ess, h1, h2⟩ := rd_all vs (fun x hx => h x (List.mem_cons_of_mem _ hx))
    refine ⟨es :: ess, by simp [h1], fun i hi => ?_⟩
    cases i with
    | zero => exact he
    | succ i => exact h2 i (by simpa using hi)
theorem LR.nrd (h : LR w B b H v n) : ∃ ess : List (List Int), ess.length = n ∧ NRd w w.heap.size v ess := by
  obtain ⟨vs, h1, h2⟩ := h.ex
  obtain ⟨ess, h3, h4⟩ := rd_all (w := w) vs (fun u hu => (h2 u hu).rd)
  have hn : vs.length = n := by rw [h1.1]; omega
  refine ⟨ess, by omega, vs, h3, Rd.of_own (S := slS) (n := n) (by rw [slS_flat]; exact h1) (by omega), h4⟩
end
end
end Go.Proofs.YtnhgdmhiblpknaaGreatDoor
