/- Own texts put together: The laws' bound on what they draw from, with what it rests on: A slice of slices that is made up from its end, beside a row that grows; Own lemma that knows no program: an append onto a row of the call's own, whatever the other slice; where the grown row lies; Own lemma that knows no program: an append at a guarded step of a region that draws its order; Helpers of the law FnWorkers: lists of ints and lists of such compared by the laws; what the functions of tasks return where the answer is known; The reference's draws of a task, of a task's text, of what a new task takes; An argument that is a slice of bytes, opened to its cells; What the rows' condition gives: the table of powers of ten; a world that meets it; What the journal rows' condition gives: Env; a world that meets it; the wrap that keeps the world's shape besides; A journal among the arguments: opened to its two texts. Conditions: those of each theorem. -/
import Derived.Test.YtnhgdmhiblpknaaGreatDoorWkM1
import Derived.Test.YtnhgdmhiblpknaaGreatDoorWkM7
import Derived.Test.YtnhgdmhiblpknaaGreatDoorWkM5
import Derived.Test.YtnhgdmhiblpknaaGreatDoorWkM12
import Derived.Test.YtnhgdmhiblpknaaGreatDoorWkM13
import Derived.Test.YtnhgdmhiblpknaaGreatDoorWkM14
import Derived.Test.YtnhgdmhiblpknaaGreatDoorWkM15
import Derived.Test.YtnhgdmhiblpknaaGreatDoorWkM10
import Derived.Test.YtnhgdmhiblpknaaGreatDoorWkM2
import Derived.Test.YtnhgdmhiblpknaaGreatDoorRows
import Derived.LaidMore
import Derived.MakeChecks
import Derived.Lib.LaidTab
import Derived.Test.YtnhgdmhiblpknaaGreatDoorWkM11
import Derived.Lib.LaidU8
import Derived.Handed
import Derived.Lay
import Derived.Lib.SmallJoins
namespace Go.Proofs.YtnhgdmhiblpknaaGreatDoor
section
section
open Go Go.RowKit
def bigB (n m : Nat) : Bool := decide (1048576 < (n : Int)) || decide (1048576 - (n : Int) < (m : Int))
theorem big_any (A : Option Addr) (n c : Nat) (B : Option Addr) (m d : Nat) (w : World) :
    Calls Tryz.prog 26 #[.slice A n c, .slice B m d] w fun r w' => r = .returned (.bool (bigB n m)) ∧ Below w.heap.size w w' := by
  by_cases h1 : (1048576 : Int) < (n : Int)
  · have h1' : 1048576 < n := by omega
    have hv : bigB n m = true := by unfold bigB; rw [decide_eq_true h1]; rfl
    rw [hv]; clear hv
    go_enter Tryz.func26, Tryz.ntmps26
    go_wp2
    go_ret
    exact ⟨rfl, Below.refl _ _⟩
  · have h1' : ¬ 1048576 < n := by omega
    have hv : bigB n m = decide (1048576 - (n : Int) < (m : Int)) := by unfold bigB; rw [decide_eq_false h1]; rfl
    rw [hv]; clear hv
    go_enter Tryz.func26, Tryz.ntmps26
    go_wp2
    go_ret
    exact ⟨rfl, Below.refl _ _⟩
end
section
open Go Go.RowKit

/-- The slice v, if it is not empty, does not lie in the block of the row f. -/
def offB (f v : Value) : Prop := ∀ A n c g o, v = .slice A n c → 0 < n → A = some (⟨g, o, none⟩ : Addr) → f.ownBlock ≠ some g
/-- The slice value v reads as a list of lists of ints, and nothing of it lies in the block of the row f. -/
def Bk (w : World) (f v : Value) (ess : List (List Int)) : Prop :=
  ∃ vs : List Value, vs.length = ess.length ∧ Rd slS w w.heap.size v vs ∧ offB f v ∧ ∀ i, i < ess.length → Rd inS w w.heap.size (vat vs i) (cat' ess i) ∧ offB f (vat vs i)
section
variable {w w' : World} {f f' v : Value} {ess : List (List Int)}
theorem Bk.nil (w : World) (f : Value) : Bk w f (.slice none 0 0) [] := ⟨[], rfl, Rd.nil _ _, fun A n c g o h h0 => by injection h with _ h2; omega, fun i h => absurd h (Nat.not_lt_zero _)⟩
theorem Bk.nrd (h : Bk w f v ess) : NRd w w.heap.size v ess := let ⟨vs, h1, h2, _, h4⟩ := h; ⟨vs, h1, h2, fun i hi => (h4 i hi).1⟩
theorem Bk.on (h : Bk w f v ess) (hb : Below w.heap.size w w') : Bk w' f v ess := let ⟨vs, h1, h2, h3, h4⟩ := h; ⟨vs, h1, h2.on hb, h3, fun i hi => ⟨(h4 i hi).1.on hb, (h4 i hi).2⟩⟩
theorem rd_grown {E : Type} {S : Shape E} {es : List E} {row : Option Nat} (h : Rd S w w.heap.size v es) (ho : offB f v) (hg : w.grownBy w' row) (hr : row = f.ownBlock) : Rd S w' w'.heap.size v es := by
  obtain ⟨A, c, hv, hc, hm, hA⟩ := h
  refine ⟨A, c, hv, hc, hm, fun h0 => ?_⟩
  obtain ⟨g, off, hA', hgl, hcell⟩ := hA h0
  refine ⟨g, off, hA', Nat.lt_of_lt_of_le hgl hg.size, fun k hk j hj => ?_⟩
  have hne : some g ≠ row := fun e => ho A es.length c g off hv h0 hA' (by rw [← hr]; exact e.symm)
  rw [← hcell k hk j hj]
  unfold World.cell?
  rw [hg.block g hgl hne]
theorem off_next {E : Type} {S : Shape E} {es : List E} (h : Rd S w w.heap.size v es) (ho : offB f v) (hat : f'.ownBlock = f.ownBlock ∨ f'.ownBlock = some w.heap.size) : offB f' v := by
  intro A n c g o hv hn hA e
  rcases hat with h1 | h1
  · exact ho A n c g o hv hn hA (by rw [← h1]; exact e)
  · obtain ⟨A2, c2, hv2, -, -, hA2⟩ := h
    rw [hv] at hv2
    injection hv2 with e1 e2 e3
    subst e1 e2
    obtain ⟨g2, o2, e4, hlt, -⟩ := hA2 hn
    rw [hA] at e4
    injection e4 with e5
    injection e5 with e6
    rw [h1] at e
    injection e with e
    omega
/-- Behind the growth of that row. -/
theorem Bk.grown (h : Bk w f v ess) (hg : w.grownBy w' f.ownBlock) (hat : f'.ownBlock = f.ownBlock ∨ f'.ownBlock = some w.heap.size) : Bk w' f' v ess := by
  obtain ⟨vs, h1, h2, h3, h4⟩ := h
  exact ⟨vs, h1, rd_grown h2 h3 hg rfl, off_next h2 h3 hat, fun i hi => ⟨rd_grown (h4 i hi).1 (h4 i hi).2 hg rfl, off_next (h4 i hi).1 (h4 i hi).2 hat⟩⟩
theorem off_new {B : Nat} {g : Nat} {A : Option Addr} {n c : Nat} (hf : ∀ k, f.ownBlock = some k → k < B) (hB : B ≤ g) (hA : A = some ⟨g, 0, none⟩) : offB f (.slice A n c) := by
  intro A2 n2 c2 g2 o2 hv hn hA2 e
  injection hv with e1 e2 e3
  rw [hA, hA2] at e1
  injection e1 with e4
  injection e4 with e5
  have := hf g2 e
  omega
/-- One more in front, behind an append of the others to a new row of one. -/
theorem Bk.cons {u v' : Value} {x : List Int} {vs : List Value} (hb : Below w.heap.size w w') (hvs : vs.length = ess.length) (hi : ∀ i, i < ess.length → Rd inS w w.heap.size (vat vs i) (cat' ess i) ∧ offB f (vat vs i))
    (ho : w'.ownsRow w.heap.size 34 1 v' (1 + ess.length) ([u] ++ vs)) (hu : Rd inS w' w'.heap.size u x) (hou : offB f u) (hf : ∀ k, f.ownBlock = some k → k < w.heap.size) : Bk w' f v' (x :: ess) := by
  refine ⟨u :: vs, by simp [hvs], Rd.of_own (S := slS) (n := 1 + ess.length) (by rw [slS_flat]; exact ho) (by simp [hvs]; omega), ?_, fun i hi2 => ?_⟩
  · intro A n c g o hv hn hA e
    have h1 := hf g e
    have h2 := (World.ownsRow.lt ho g (by
      rcases ho.2 with ⟨h3, -⟩ | ⟨g3, cap, cur, h3, -⟩
      · rw [hv] at h3; injection h3 with h4 h5; omega
      · rw [hv] at h3; injection h3 with h4; rw [hA] at h4; injection h4 with h5; injection h5 with h6 h7 h8; rw [hv, hA, h6, h7]; rfl)).1
    omega
  · cases i with
    | zero => exact ⟨hu, hou⟩
    | succ i =>
      have h3 := hi i (by simpa using hi2)
      exact ⟨h3.1.on hb, h3.2⟩
theorem cell_grownL {row : Option Nat} {p : Addr} (hg : w.grownBy w' row) (h : p.block < w.heap.size) (hr : ∀ g, row = some g → p.block < g) : w'.cell? p = w.cell? p := by
  unfold World.cell?
  rw [hg.block p.block h (fun e => by have := hr _ e.symm; omega)]
theorem own_srcP {B z n c : Nat} {t : TypeId} {A : Option Addr} {xs : List Value} (h : w.ownsRow B t z (.slice A n c) n xs) : (A = none → n = 0) ∧ ∀ a, A = some a → ∀ j u, xs[j]? = some u → w.cell? (a.add j) = some u := by
  rcases h.2 with ⟨h1, h2⟩ | ⟨g, cap, cur, h1, -, -, -, -, -, -⟩
  · injection h1 with e1 e2 e3
    subst e1
    exact ⟨fun _ => h2, fun a ha => (by cases ha)⟩
  · injection h1 with e1 e2 e3
    subst e1 e3
    refine ⟨fun e => (by cases e), fun a ha j u hj => ?_⟩
    cases ha
    have hl := (List.getElem?_eq_some_iff.1 hj).1
    rw [Addr.add_lit, Nat.zero_add, h.cellAt j (by rw [← h.1]; exact hl)]
    exact hj
theorem rd_blk2 {g : Nat} {t : TypeId} {x y : Int} (h : Blk w g t #[.int .i64 x, .int .i64 y]) : Rd inS w w.heap.size (.slice (some ⟨g, 0, none⟩) 2 2) [x, y] := by
  refine ⟨_, 2, rfl, Nat.le_refl _, by unfold maxLen; omega, fun _ => ⟨g, 0, rfl, h.lt, fun k hk j hj => ?_⟩⟩
  have hj0 : j = 0 := by simp [inS] at hj; exact hj
  subst hj0
  have hs : inS.size = 1 := rfl
  rw [hs, Nat.zero_add, Nat.mul_one, Nat.add_zero, h.cell]
  have hk2 : k < 2 := hk
  match k, hk2 with
  | 0, _ => rfl
  | 1, _ => rfl
theorem pair_cells {hi : Nat} {x y : Int} (h : Rd inS w hi v [x, y]) : ∃ g o c, v = .slice (some ⟨g, o, none⟩) 2 c ∧ (2 : Nat) ≤ c ∧ c ≤ maxLen ∧ g < hi ∧ w.cell? ⟨g, o, none⟩ = some (.int .i64 x) ∧ w.cell? ⟨g, o + 1, none⟩ = some (.int .i64 y) := by
  obtain ⟨A, c, hv, hc, hm, hA⟩ := h
  obtain ⟨g, o, rfl, hg, hcell⟩ := hA (by simp)
  have h0 := hcell 0 (by simp) 0 (by decide)
  have h1 := hcell 1 (by simp) 0 (by decide)
  simp [inS, Shape.get] at h0 h1
  exact ⟨g, o, c, hv, hc, hm, hg, h0, h1⟩
theorem rev_succ {E : Type} {L : List (List E)} {j : Nat} (hj : j < L.length) : (L.take (j + 1)).reverse = cat' L j :: (L.take j).reverse := by
  rw [List.take_succ_eq_append_getElem hj, List.reverse_append]
  unfold cat'
  rw [List.getD_eq_getElem?_getD, List.getElem?_eq_getElem hj]
  rfl
theorem own_lit1 {X w0 : World} {o : Obj} {e : TypeId} {x : Value} (h : w0.heap.size ≤ X.heap.size) : ((X.alloc o).alloc (.cells #[x] e)).ownsRow w0.heap.size e 1 (.slice (some ⟨X.heap.size + 1, 0, none⟩) 1 1) 1 [x] := by
  have h9 := World.ownsRow_lit (e := e) (size := 1) (base := w0.heap.size) (X.alloc o) #[x] 1 (by simp; omega) (by unfold maxLen; omega) rfl
  rw [World.size_alloc] at h9
  exact h9
end
end
section
open Go Go.RowKit
theorem wpList_append_at {P : Program} {w : World} {ops : Array Oper} {rest : List Oper} {o : Oper} {a : Act} {Q : Exit → Act → World → Prop} (hgd : o.guard = none) (s x : Operand) (t : TypeId)
    (ho : o.op = .call { callee := .builtin .append, args := #[s, x], argTypes := #[t, t] })
    (base : Nat) (e : TypeId) (i : TypeInfo) (z : Value) (size bytes : Nat) (ht : P.underlying t = some (.slice e)) (hi : P.info? e = some i) (hz : i.zero = some z)
    (hsize : i.size = size) (hby : i.bytes = bytes) (hzs : z.cells.size = size) (hsz : 0 < size)
    (v : Value) (n : Nat) (xs : List Value) (hs : a.eval s = v) (hown : w.ownsRow base e size v n xs)
    (A : Option Addr) (m c : Nat) (news : List Value) (hx : a.eval x = .slice A m c) (hl : news.length = m * size) (hA : A = none → m = 0) (hnews : ∀ a, A = some a → ∀ j u, news[j]? = some u → w.cell? (a.add j) = some u) (h1 : ∀ u ∈ news, u.oneCell' = true)
    (h63 : n + m ≤ maxLen) (hbytes : (n + m) * bytes ≤ 140737488355328) (hbase : base ≤ w.heap.size)
    (h : ∀ v' w', w'.ownsRow base e size v' (n + m) (xs ++ news) → w.grownBy w' v.ownBlock → (v'.ownBlock = v.ownBlock ∨ v'.ownBlock = some w.heap.size) → wpList P ops Q rest (a.put o.dst v') w') : wpList P ops Q (o :: rest) a w := by
  obtain ⟨v', w', hr, h2, h3, h4⟩ := run_append_src (P := P) w base t o.type e i z size bytes ht hi hz hsize hby hzs hsz v n xs hown A m c news hl hA hnews h1 h63 hbytes hbase
  refine wpList_plain hgd fun K hK => ?_
  unfold Oper.wp execOp
  simp only [ho, resolve, invoke, builtin, Sem.run_bind, Sem.run_pure, Result.andThen_ok, List.map_toArray, List.map_cons, List.map_nil, hs, hx, hr]
  exact hK _ _ (h v' w' h2 h3 h4)
end
section
open Go Go.RowKit

section
variable {P : Program}
/-- As step_append_src, where the operation stands behind a guard that holds. -/
theorem step_append_srcW {ops : Array Oper} {o : Oper} {a : Act} {w : World} {K : Act → World → Prop} {Q : Exit → Act → World → Prop} {E : Prop} (hw : Region.wanted o (yielded ops a.tmps) = true) (s x : Operand) (t : TypeId)
    (ho : o.op = .call { callee := .builtin .append, args := #[s, x], argTypes := #[t, t] })
    (e : TypeId) (i : TypeInfo) (z : Value) (size bytes : Nat) (ht : P.underlying t = some (.slice e)) (hi : P.info? e = some i) (hz : i.zero = some z)
    (hsize : i.size = size) (hby : i.bytes = bytes) (hzs : z.cells.size = size) (hsz : 0 < size) (w0 : World) (hb : Below w0.heap.size w0 w)
    (v : Value) (n : Nat) (xs : List Value) (hs : a.eval s = v) (hown : w.ownsRow w0.heap.size e size v n xs)
    (A : Option Addr) (m c : Nat) (news : List Value) (hx : a.eval x = .slice A m c) (hl : news.length = m * size) (hA : A = none → m = 0) (hnews : ∀ a, A = some a → ∀ j u, news[j]? = some u → w.cell? (a.add j) = some u) (h1 : ∀ u ∈ news, u.oneCell' = true)
    (h63 : n + m ≤ maxLen) (hbytes : (n + m) * bytes ≤ 140737488355328)
    (h : ∀ v' w', w'.ownsRow w0.heap.size e size v' (n + m) (xs ++ news) → Below w0.heap.size w0 w' → (∀ b t cs, Blk w b t cs → v.ownBlock ≠ some b → Blk w' b t cs) → K (a.put o.dst v') w') :
    if Region.wanted o (yielded ops a.tmps) = true then Oper.wp P o a w K Q else E := by
  rw [if_pos hw]
  obtain ⟨v', w', hr, h2, h3, -⟩ := run_append_src (P := P) w w0.heap.size t o.type e i z size bytes ht hi hz hsize hby hzs hsz v n xs hown A m c news hl hA hnews h1 h63 hbytes hb.size
  unfold Oper.wp execOp
  simp only [ho, resolve, invoke, builtin, Sem.run_bind, Sem.run_pure, Result.andThen_ok, List.map_toArray, List.map_cons, List.map_nil, hs, hx, hr]
  exact h v' w' h2 (Below.grown hb h3 hb.size (fun k hk => (hown.lt k hk).1)) (fun b t cs hB hne => (h3.block b hB.lt (fun e => hne e.symm)).trans hB)
end
end
section
open Go Go.RowKit

set_option maxHeartbeats 1000000 in
theorem sameI_same (u v : Value) (es : List Int) (w : World) (hu : Rd inS w w.heap.size u es) (hv : Rd inS w w.heap.size v es) :
    Calls Tryz.prog 85 #[u, v] w fun e w' => e = .returned (.bool true) ∧ Below w.heap.size w w' := by
  obtain ⟨A, c, rfl, hc, hm, hA⟩ := hu
  obtain ⟨A', c', rfl, hc', hm', hA'⟩ := hv
  unfold maxLen at hm hm'
  rcases Nat.eq_zero_or_pos es.length with h0 | h0
  · obtain rfl : es = [] := List.eq_nil_of_length_eq_zero h0
    go_enter Tryz.func85, Tryz.ntmps85
    go_wp2
    refine wp_loop_rounds 1 ?_
    rw [rounds_succ]
    go_wp2
    go_ret
    exact ⟨rfl, Below.refl _ _⟩
  · obtain ⟨g, off, rfl, hg, hcell⟩ := hA h0
    obtain ⟨g', off', rfl, hg', hcell'⟩ := hA' h0
    clear hA hA'
    have hcell := in_cells hcell
    have hcell' := in_cells hcell'
    go_enter Tryz.func85, Tryz.ntmps85
    go_wp2
    go_loopw [13] (fun i wr => ∃ k : Nat, k ≤ es.length ∧ i = .int .i64 k ∧ Below w.heap.size w wr) (fun i _ => es.length - (intOf i).toNat)
    case atStart => exact ⟨0, Nat.zero_le _, rfl, Below.refl _ _⟩
    case round =>
      obtain ⟨k, hk, rfl, hb⟩ := hrel
      by_cases hlt : k < es.length
      · have f0 := hcell k hlt
        have p0 := hcell' k hlt
        rw [← hb.cell (p := ⟨_, _, _⟩) hg] at f0
        rw [← hb.cell (p := ⟨_, _, _⟩) hg'] at p0
        obtain ⟨x, hx⟩ : ∃ e, inS.get es k = e := ⟨_, rfl⟩
        rw [hx] at f0 p0
        have hgr : g < wr.heap.size := Nat.lt_of_lt_of_le hg hb.size
        have hgr' : g' < wr.heap.size := Nat.lt_of_lt_of_le hg' hb.size
        have hi0 : (0 : Int) ≤ (k : Int) := by omega
        have hi1 : (k : Int) < (es.length : Int) := by omega
        clear hcell hcell' hx
        go_wp2
        refine wp_region_tame (by kernel_rfl) (by kernel_rfl) (fun T _ W hT => ?_)
        have hy := hT.cell
        repeat (go_big_quiet_step (fail))
        refine wpQuiet_nil ?_
        intro t
        clear hy
        go_wp2
        go_roundw
        case rel => exact ⟨k + 1, by omega, by go_num, bthen hb (hT.below t)⟩
        case measure => simp [intOf]; omega
      · go_wp2
        go_ret
        exact ⟨rfl, hb⟩
set_option maxHeartbeats 2000000 in
theorem sameL_same (u v : Value) (ess : List (List Int)) (w : World) (hu : NRd w w.heap.size u ess) (hv : NRd w w.heap.size v ess) :
    Calls Tryz.prog 30 #[u, v] w fun e w' => e = .returned (.bool true) ∧ Below w.heap.size w w' := by
  obtain ⟨us, hul, hu, hui⟩ := hu
  obtain ⟨vs, hvl, hv, hvi⟩ := hv
  obtain ⟨A, c, rfl, hc, hm, hA⟩ := hu
  obtain ⟨A', c', rfl, hc', hm', hA'⟩ := hv
  rw [hul] at hA hc ⊢
  rw [hvl] at hA' hc' ⊢
  unfold maxLen at hm hm'
  have Hui := Lib.hid hui; have Hvi := Lib.hid hvi
  clear hui hvi hul hvl
  rcases Nat.eq_zero_or_pos ess.length with h0 | h0
  · have h00 := Lib.hid h0
    rw [h0]
    clear hA hA' h0 hc hc'
    go_enter Tryz.func30, Tryz.ntmps30
    go_wp2
    refine wp_loop_rounds 1 ?_
    rw [rounds_succ]
    go_wp2
    go_ret
    exact ⟨rfl, Below.refl _ _⟩
  · obtain ⟨g, off, rfl, hg, hcell⟩ := hA h0
    obtain ⟨g', off', rfl, hg', hcell'⟩ := hA' h0
    clear hA hA'
    have hcell := sl_cells hcell
    have hcell' := sl_cells hcell'
    go_enter Tryz.func30, Tryz.ntmps30
    go_wp2
    go_loopw [13] (fun i wr => ∃ k : Nat, k ≤ ess.length ∧ i = .int .i64 k ∧ Below w.heap.size w wr) (fun i _ => ess.length - (intOf i).toNat)
    case atStart => exact ⟨0, Nat.zero_le _, rfl, Below.refl _ _⟩
    case round =>
      obtain ⟨k, hk, rfl, hb⟩ := hrel
      by_cases hlt : k < ess.length
      · have f0 := hcell k hlt
        have p0 := hcell' k hlt
        rw [← hb.cell (p := ⟨_, _, _⟩) hg] at f0
        rw [← hb.cell (p := ⟨_, _, _⟩) hg'] at p0
        have hr1 := (Hui.out k hlt).on hb
        have hr2 := (Hvi.out k hlt).on hb
        obtain ⟨x, hx⟩ : ∃ e, vat us k = e := ⟨_, rfl⟩
        obtain ⟨y, hy⟩ : ∃ e, vat vs k = e := ⟨_, rfl⟩
        rw [hx] at f0 hr1
        rw [hy] at p0 hr2
        have Hr1 := Lib.hid hr1; have Hr2 := Lib.hid hr2
        have hgr : g < wr.heap.size := Nat.lt_of_lt_of_le hg hb.size
        have hgr' : g' < wr.heap.size := Nat.lt_of_lt_of_le hg' hb.size
        have hi0 : (0 : Int) ≤ (k : Int) := by omega
        have hi1 : (k : Int) < (ess.length : Int) := by omega
        clear hcell hcell' hx hy hr1 hr2
        go_wp2
        refine wp_region_tame (by kernel_rfl) (by kernel_rfl) (fun T _ W hT => ?_)
        have hq := hT.cell
        repeat (go_big_quiet_step ((go_at_call 85; exact hT.call (sameI_same _ _ (cat' ess k) _ (Hr1.out.on (hT.below _)) (Hr2.out.on (hT.below _))))))
        refine wpQuiet_nil ?_
        intro t
        clear hq
        go_wp2
        go_roundw
        case rel => exact ⟨k + 1, by omega, by go_num, bthen hb (hT.below t)⟩
        case measure => simp [intOf]; omega
      · go_wp2
        go_ret
        exact ⟨rfl, hb⟩
theorem specRest_is (a b m d t : Int) (v : Value) (fs : List Pt) (x : Int) (k : Bool) (w : World) (e : restV a b m d t fs = (x, k)) (hv : Rd ptS w w.heap.size v fs) :
    Calls Tryz.prog 35 #[.agg #[.int .i64 a, .int .i64 b, .int .i64 m, .int .i64 d, .int .i64 t, v]] w fun r w' => r = .returned (.tuple #[.int .i64 x, .bool k]) ∧ Below w.heap.size w w' := by
  have h := specRest_any a b m d t v fs w hv
  rwa [e] at h
theorem implRun_is (a b m d t : Int) (v : Value) (fs : List Pt) (f l : Int) (L : List Pt) (k : Bool) (w : World) (e : runV a b m d t fs f l = (L, k)) (hv : Rd ptS w w.heap.size v fs) :
    Calls Tryz.prog 31 #[.agg #[.int .i64 a, .int .i64 b, .int .i64 m, .int .i64 d, .int .i64 t, v], .int .i64 f, .int .i64 l] w fun r w' => (∃ v2, r = .returned (.tuple #[v2, .bool k]) ∧ w'.ownsRow w.heap.size 117 3 v2 L.length (ptS.flat L)) ∧ Below w.heap.size w w' := by
  have h := implRun_any a b m d t v fs f l w hv
  rwa [e] at h
theorem implRanges_is (a b m d t : Int) (v : Value) (fs : List Pt) (z : Int) (L : List (List Int)) (k : Bool) (w : World) (e : rangesV a b m d t fs z = (L, k)) (hv : Rd ptS w w.heap.size v fs) :
    Calls Tryz.prog 28 #[.agg #[.int .i64 a, .int .i64 b, .int .i64 m, .int .i64 d, .int .i64 t, v], .int .i64 z] w fun r w' => (∃ v', r = .returned (.tuple #[v', .bool k]) ∧ NRd w' w'.heap.size v' L) ∧ Below w.heap.size w w' := by
  refine (implRanges_any a b m d t v fs z w hv).mono ?_
  rintro r w' ⟨⟨v', vs, rfl, hn⟩, hb⟩
  rw [e] at hn ⊢
  exact ⟨⟨v', rfl, NRd.of_own hn⟩, hb⟩
theorem implTaskText_is (a b m d t : Int) (v : Value) (fs : List Pt) (s : ByteArray) (k : Bool) (w : World) (e : textV a b m d t fs = (s, k)) (hv : Rd ptS w w.heap.size v fs) (ht : Tab w) :
    Calls Tryz.prog 42 #[.agg #[.int .i64 a, .int .i64 b, .int .i64 m, .int .i64 d, .int .i64 t, v]] w fun r w' => r = .returned (.tuple #[.string s, .bool k]) ∧ Below w.heap.size w w' := by
  have h := implTaskText_any a b m d t v fs w hv ht
  rwa [e] at h
theorem specRun_is (a b m d t : Int) (v : Value) (fs : List Pt) (f l : Int) (L : List Pt) (k : Bool) (w : World) (e : runV a b m d t fs f l = (L, k)) (hv : Rd ptS w w.heap.size v fs) :
    Calls Tryz.prog 32 #[.agg #[.int .i64 a, .int .i64 b, .int .i64 m, .int .i64 d, .int .i64 t, v], .int .i64 f, .int .i64 l] w fun r w' => (∃ v2, r = .returned (.tuple #[v2, .bool k]) ∧ w'.ownsRow w.heap.size 117 3 v2 L.length (ptS.flat L)) ∧ Below w.heap.size w w' := by
  have h := specRun_any a b m d t v fs f l w hv
  rwa [e] at h
theorem specRanges_is (a b m d t : Int) (v : Value) (fs : List Pt) (z : Int) (L : List (List Int)) (k : Bool) (w : World) (e : rangesV a b m d t fs z = (L, k)) (hv : Rd ptS w w.heap.size v fs) :
    Calls Tryz.prog 29 #[.agg #[.int .i64 a, .int .i64 b, .int .i64 m, .int .i64 d, .int .i64 t, v], .int .i64 z] w fun r w' => (∃ v', r = .returned (.tuple #[v', .bool k]) ∧ NRd w' w'.heap.size v' L) ∧ Below w.heap.size w w' := by
  refine (specRanges_any a b m d t v fs z w hv).mono ?_
  rintro r w' ⟨⟨v', vs, rfl, hn⟩, hb⟩
  rw [e] at hn ⊢
  exact ⟨⟨v', rfl, NRd.of_own hn⟩, hb⟩
theorem specTaskText_is (a b m d t : Int) (v : Value) (fs : List Pt) (s : ByteArray) (k : Bool) (w : World) (e : textV a b m d t fs = (s, k)) (hv : Rd ptS w w.heap.size v fs) :
    Calls Tryz.prog 43 #[.agg #[.int .i64 a, .int .i64 b, .int .i64 m, .int .i64 d, .int .i64 t, v]] w fun r w' => r = .returned (.tuple #[.string s, .bool k]) ∧ Below w.heap.size w w' := by
  have h := specTaskText_any a b m d t v fs w hv
  rwa [e] at h
end
section
open Go Go.RowKit

theorem nText_small {a b m d t : Int} {fs : List Pt} (h : tkG a b m d t fs = true) : (nText [a, b, m, d, t]).size ≤ 40 := by
  unfold tkG at h
  simp only [Bool.and_eq_true] at h
  have h5 : tk5 a b m d t = true := by unfold tk5; rw [h.1, h.2.1]; rfl
  have h6 := psI_some h5 rfl
  by_cases hl : 40 < (nText [a, b, m, d, t]).size
  · rw [ps_long hl] at h6; cases h6
  · omega

set_option linter.unusedSimpArgs false in
set_option maxRecDepth 8000 in
set_option maxHeartbeats 16000000 in
theorem drawNew_any (A : Option Addr) (n c : Nat) (w : World) (hby : BytesAt w w.heap.size A n) :
    Calls Tryz.prog 47 #[.slice A n c] w fun e w' => (∃ a b m d : Int, e = .returned (.tuple #[.agg #[.int .i64 a, .int .i64 b], .int .i64 m, .int .i64 d])) ∧ Below w.heap.size w w' := by
  have Hb := Lib.hid hby; clear hby
  have Hgl := Lib.hid (Nat.le_refl w.heap.size)
  have Hd := Lib.hid (Dg.refl (w.heap.size + 1) w)
  go_enter Tryz.func47, Tryz.ntmps47
  go_wp2_with fail
  refine (wealthy_any (w.heap.size + 1) 0 _ (Cur.new1 Hb.out c _) (by omega)).mono ?_; rintro e w1 ⟨⟨a, b, rfl⟩, hc1, hd1⟩
  have S1 := Lib.hid (show w.heap.size + 2 ≤ w1.heap.size by have h9 := hd1.size; (try simp only [World.size_alloc, World.size_setCell] at h9); omega)
  have NR := Lib.hid (((Blk.new w 25 #[.int .i64 0, .int .i64 0]).alloc (Obj.cells #[.slice A n c, .int .i64 0, .int .u64 0] 78)).dg hd1 (show w.heap.size ≠ (w.heap.size + 1) by have := Hgl.out; have := S1.out; omega))
  have R := NR; clear NR
  have Hc1 := Lib.hid (hc1.mono (j := 0 + 50) (by omega))
  have Hd1 := Lib.hid (((Hd.out.alloc (Obj.cells #[.int .i64 0, .int .i64 0] 25)).alloc (Obj.cells #[.slice A n c, .int .i64 0, .int .u64 0] 78)).trans hd1)
  clear hc1 hd1
  go_wp2_with fail
  refine (among_lit (w.heap.size + 1) (0 + 50) (w1.heap.size) [-1, 201] w1 (by simp) Hc1.out (by simp) (by simp) (by omega)).mono ?_; rintro e w2 ⟨⟨x0, hx0, rfl⟩, hc2, hd2⟩
  have S2 := Lib.hid (show w1.heap.size + 1 ≤ w2.heap.size by have h9 := hd2.size; (try simp only [World.size_alloc, World.size_setCell] at h9); omega)
  have NR := Lib.hid ((R.out.alloc _).dg hd2 (show w.heap.size ≠ (w.heap.size + 1) by have := Hgl.out; have := S1.out; have := S2.out; omega))
  have R := NR; clear NR
  have Hc2 := Lib.hid (hc2.mono (j := 0 + 52) (by omega))
  have Hd2 := Lib.hid ((Hd1.out.alloc _).trans hd2)
  clear hc2 hd2
  clear hx0
  go_wp2_with fail
  refine (among_lit (w.heap.size + 1) (0 + 52) (w2.heap.size) [0, 4, 200, x0] w2 (by simp) Hc2.out (by simp) (by simp) (by omega)).mono ?_; rintro e w3 ⟨⟨x1, hx1, rfl⟩, hc3, hd3⟩
  have S3 := Lib.hid (show w2.heap.size + 1 ≤ w3.heap.size by have h9 := hd3.size; (try simp only [World.size_alloc, World.size_setCell] at h9); omega)
  have NR := Lib.hid ((R.out.alloc _).dg hd3 (show w.heap.size ≠ (w.heap.size + 1) by have := Hgl.out; have := S1.out; have := S2.out; have := S3.out; omega))
  have R := NR; clear NR
  have Hc3 := Lib.hid (hc3.mono (j := 0 + 54) (by omega))
  have Hd3 := Lib.hid ((Hd2.out.alloc _).trans hd3)
  clear hc3 hd3
  clear hx1
  go_wp2_with fail
  refine (among_lit (w.heap.size + 1) (0 + 54) (w3.heap.size) [0, 11] w3 (by simp) Hc3.out (by simp) (by simp) (by omega)).mono ?_; rintro e w4 ⟨⟨x2, hx2, rfl⟩, hc4, hd4⟩
  have S4 := Lib.hid (show w3.heap.size + 1 ≤ w4.heap.size by have h9 := hd4.size; (try simp only [World.size_alloc, World.size_setCell] at h9); omega)
  have NR := Lib.hid ((R.out.alloc _).dg hd4 (show w.heap.size ≠ (w.heap.size + 1) by have := Hgl.out; have := S1.out; have := S2.out; have := S3.out; have := S4.out; omega))
  have R := NR; clear NR
  have Hc4 := Lib.hid (hc4.mono (j := 0 + 56) (by omega))
  have Hd4 := Lib.hid ((Hd3.out.alloc _).trans hd4)
  clear hc4 hd4
  clear hx2
  go_wp2_with fail
  refine (among_lit (w.heap.size + 1) (0 + 56) (w4.heap.size) [1, 3, 10, x2] w4 (by simp) Hc4.out (by simp) (by simp) (by omega)).mono ?_; rintro e w5 ⟨⟨x3, hx3, rfl⟩, hc5, hd5⟩
  have S5 := Lib.hid (show w4.heap.size + 1 ≤ w5.heap.size by have h9 := hd5.size; (try simp only [World.size_alloc, World.size_setCell] at h9); omega)
  have NR := Lib.hid ((R.out.alloc _).dg hd5 (show w.heap.size ≠ (w.heap.size + 1) by have := Hgl.out; have := S1.out; have := S2.out; have := S3.out; have := S4.out; have := S5.out; omega))
  have R := NR; clear NR
  have Hc5 := Lib.hid (hc5.mono (j := 0 + 58) (by omega))
  have Hd5 := Lib.hid ((Hd4.out.alloc _).trans hd5)
  clear hc5 hd5
  clear hx3
  have qR0 := R.out.cell 0
  have qR1 := R.out.cell 1
  simp at qR0 qR1
  have qRl := R.out.lt
  have qRf := R.out.frozen
  go_wp2
  clear qR0 qR1 qRl qRf
  have HR9 := (show Blk (World.setCell (World.setCell w5 ⟨w.heap.size, 0, none⟩ (.int .i64 a)) ⟨w.heap.size, 1, none⟩ (.int .i64 b)) (w.heap.size) 25 #[.int .i64 a, .int .i64 b] by have h9 := ((R.out.set 0 (.int .i64 a)).set 1 (.int .i64 b)); simpa using h9)
  have k0 := HR9.cell 0
  have k1 := HR9.cell 1
  simp at k0 k1
  exact bodyPost_ret (v := .tuple #[.agg #[.int .i64 a, .int .i64 b], .int .i64 x1, .int .i64 x3]) (by simp [results, Tryz.results47, go_sem, k0, k1]) rfl ⟨⟨a, b, x1, x3, rfl⟩, ((Hd5.out.st (p := ⟨w.heap.size, 0, none⟩) (show w.heap.size ≤ w.heap.size by have := Hgl.out; have := S1.out; have := S2.out; have := S3.out; have := S4.out; have := S5.out; omega) (.int .i64 a)).st (p := ⟨w.heap.size, 1, none⟩) (show w.heap.size ≤ w.heap.size by have := Hgl.out; have := S1.out; have := S2.out; have := S3.out; have := S4.out; have := S5.out; omega) (.int .i64 b)).below (by have := S1.out; have := S2.out; have := S3.out; have := S4.out; have := S5.out; omega) (Nat.le_refl _)⟩
set_option linter.unusedSimpArgs false in
set_option maxRecDepth 8000 in
set_option maxHeartbeats 16000000 in
theorem drawParseTask_any (A : Option Addr) (n c : Nat) (w : World) (hby : BytesAt w w.heap.size A n) :
    Calls Tryz.prog 45 #[.slice A n c] w fun e w' => (∃ s : ByteArray, s.size ≤ 100 ∧ e = .returned (.string s)) ∧ Below w.heap.size w w' := by
  have Hb := Lib.hid hby; clear hby
  have Hgl := Lib.hid (Nat.le_refl w.heap.size)
  have Hd := Lib.hid (Dg.refl w.heap.size w)
  go_enter Tryz.func45, Tryz.ntmps45
  go_wp2_with fail
  refine (task_any w.heap.size 0 _ (Cur.new0 Hb.out c) (by omega)).mono ?_; rintro e w1 ⟨⟨a, b, m, e9, t, v, nv, hnv, rfl, hv⟩, hc1, hd1⟩
  have S1 := Lib.hid (show w.heap.size + 1 ≤ w1.heap.size by have h9 := hd1.size; (try simp only [World.size_alloc, World.size_setCell] at h9); omega)
  have Hc1 := Lib.hid (hc1.mono (j := 0 + 100) (by omega))
  have Hd1 := Lib.hid ((Hd.out.alloc _).trans hd1)
  clear hc1 hd1
  have HV := Lib.hid (hv.mono (B' := w.heap.size + 1) (by simp)); have GHV := Lib.hid (IR.lt (hv.mono (B' := w.heap.size + 1) (by simp)))
  clear hv
  obtain ⟨A9, c9, rfl, -, -⟩ := HV.out.form
  obtain ⟨fs, hfs, opt⟩ := HV.out.pt
  have Hrp := Lib.hid (Rd.of_own (S := ptS) opt rfl)
  clear opt hfs
  go_wp2_with fail
  refine (skGood_any a b m e9 t (.slice A9 nv c9) fs _ (Hrp.out.on (bal (Below.refl _ _) _))).mono ?_; rintro e w2 ⟨rfl, hd2⟩
  have S2 := Lib.hid (show w1.heap.size + 1 ≤ w2.heap.size by have h9 := hd2.size; (try simp only [World.size_alloc, World.size_setCell] at h9); omega)
  have NQ := Lib.hid ((Blk.new w1 51 #[.int .i64 a, .int .i64 b, .int .i64 m, .int .i64 e9, .int .i64 t, .slice A9 nv c9]).dg (Dg.of_below (g := w.heap.size) hd2) (show w1.heap.size ≠ w.heap.size by have := Hgl.out; have := S1.out; have := S2.out; omega))
  have Q := NQ; clear NQ
  have HV := Lib.hid ((HV.out.alloc _).dg (Dg.of_below (g := w.heap.size) hd2) (show w.heap.size < (w.heap.size + 1) by have := Hgl.out; have := S1.out; have := S2.out; omega))
  have Hc2 := Lib.hid ((Hc1.out.alloc _).on hd2)
  have Hd2 := Lib.hid ((Hd1.out.alloc _).trans (Dg.of_below (g := w.heap.size) hd2))
  clear hd2
  clear Hrp
  cases hk9 : tkG a b m e9 t fs
  · clear hk9
    go_wp2_with fail
    refine (of_blk w.heap.size (0 + 100) (w2.heap.size) [(⟨#[45, 49, 54, 32, 49, 54, 32, 52, 32, 49, 32, 57]⟩ : ByteArray), (⟨#[45, 49, 54, 32, 49, 54, 32, 52, 32, 49, 32, 49, 48]⟩ : ByteArray), (⟨#[45, 49, 54, 32, 49, 54, 32, 52, 32, 49]⟩ : ByteArray), (⟨#[48, 32, 48, 32, 52, 32, 49, 32, 48]⟩ : ByteArray), (⟨#[]⟩ : ByteArray)] 5 rfl _ (Blk.new w2 _ _) (Hc2.out.alloc _) (by have := Hgl.out; have := S1.out; have := S2.out; omega) (by simp) (by simp) (by omega)).mono ?_; rintro e w3 ⟨⟨s, hs, rfl⟩, hc3, hd3⟩
    have hss : s.size ≤ 100 := (show ∀ y ∈ [(⟨#[45, 49, 54, 32, 49, 54, 32, 52, 32, 49, 32, 57]⟩ : ByteArray), (⟨#[45, 49, 54, 32, 49, 54, 32, 52, 32, 49, 32, 49, 48]⟩ : ByteArray), (⟨#[45, 49, 54, 32, 49, 54, 32, 52, 32, 49]⟩ : ByteArray), (⟨#[48, 32, 48, 32, 52, 32, 49, 32, 48]⟩ : ByteArray), (⟨#[]⟩ : ByteArray)], y.size ≤ 100 by decide) s hs
    clear hs
    have S3 := Lib.hid (show w2.heap.size + 1 ≤ w3.heap.size by have h9 := hd3.size; (try simp only [World.size_alloc, World.size_setCell] at h9); omega)
    have NQ := Lib.hid ((Q.out.alloc _).dg hd3 (show w1.heap.size ≠ w.heap.size by have := Hgl.out; have := S1.out; have := S2.out; have := S3.out; omega))
    have Q := NQ; clear NQ
    have HV := Lib.hid ((HV.out.alloc _).dg hd3 (show w.heap.size < (w.heap.size + 1) by have := Hgl.out; have := S1.out; have := S2.out; have := S3.out; omega))
    have Hc3 := Lib.hid (hc3.mono (j := 0 + 102) (by omega))
    have Hd3 := Lib.hid ((Hd2.out.alloc _).trans hd3)
    clear hc3 hd3
    go_wp2
    go_ret
    exact ⟨⟨s, hss, rfl⟩, Hd3.out.below (by have := S1.out; have := S2.out; have := S3.out; omega) (Nat.le_refl _)⟩
  · obtain ⟨htk, htt, -, hto⟩ := tkG_spec hk9
    have hsz := nText_small hk9
    have htt2 : 0 ≤ t ∧ t ≤ 4010 := ⟨htt.1, by omega⟩
    have Htx := Lib.hid (fun W => skText_any a b m e9 t (.slice A9 nv c9) W htk htt2)
    clear htk htt hto hk9 htt2
    generalize nText [a, b, m, e9, t] = s at hsz Htx
    have qQ0 := Q.out.cell 0
    have qQ1 := Q.out.cell 1
    have qQ2 := Q.out.cell 2
    have qQ3 := Q.out.cell 3
    have qQ4 := Q.out.cell 4
    have qQ5 := Q.out.cell 5
    simp at qQ0 qQ1 qQ2 qQ3 qQ4 qQ5
    have qQl := Q.out.lt
    go_wp2_with fail
    refine (Htx.out _).mono ?_; rintro e w4 ⟨rfl, hd4⟩
    clear qQ0 qQ1 qQ2 qQ3 qQ4 qQ5 qQl
    have S4 := Lib.hid (show w2.heap.size + 0 ≤ w4.heap.size by have h9 := hd4.size; (try simp only [World.size_alloc, World.size_setCell] at h9); omega)
    have NQ := Lib.hid (Q.out.dg (Dg.of_below (g := w.heap.size) hd4) (show w1.heap.size ≠ w.heap.size by have := Hgl.out; have := S1.out; have := S2.out; have := S4.out; omega))
    have Q := NQ; clear NQ
    have HV := Lib.hid (HV.out.dg (Dg.of_below (g := w.heap.size) hd4) (show w.heap.size < (w.heap.size + 1) by have := Hgl.out; have := S1.out; have := S2.out; have := S4.out; omega))
    have Hc4 := Lib.hid (Hc2.out.on hd4)
    have Hd4 := Lib.hid (Hd2.out.trans (Dg.of_below (g := w.heap.size) hd4))
    clear hd4
    clear Htx
    go_wp2_with fail
    refine (one_any w.heap.size (0 + 100) (3) _ Hc4.out (by omega)).mono ?_; rintro e w5 ⟨⟨o, rfl⟩, hc5, hd5⟩
    have S5 := Lib.hid (show w4.heap.size + 0 ≤ w5.heap.size by have h9 := hd5.size; (try simp only [World.size_alloc, World.size_setCell] at h9); omega)
    have NQ := Lib.hid (Q.out.dg hd5 (show w1.heap.size ≠ w.heap.size by have := Hgl.out; have := S1.out; have := S2.out; have := S4.out; have := S5.out; omega))
    have Q := NQ; clear NQ
    have HV := Lib.hid (HV.out.dg hd5 (show w.heap.size < (w.heap.size + 1) by have := Hgl.out; have := S1.out; have := S2.out; have := S4.out; have := S5.out; omega))
    have Hc5 := Lib.hid (hc5.mono (j := 0 + 102) (by omega))
    have Hd5 := Lib.hid (Hd4.out.trans hd5)
    clear hc5 hd5
    cases o
    · go_wp2
      go_ret
      exact ⟨⟨s, by omega, rfl⟩, Hd5.out.below (by have := S1.out; have := S2.out; have := S4.out; have := S5.out; omega) (Nat.le_refl _)⟩
    · go_wp2_with fail
      refine (spoilt_any w.heap.size (0 + 102) s ⟨#[45, 48, 49, 57, 32]⟩ _ Hc5.out (by omega) (by decide) (by decide) (by omega)).mono ?_; rintro e w6 ⟨⟨s2, hs2, rfl⟩, hc6, hd6⟩
      have S6 := Lib.hid (show w5.heap.size + 0 ≤ w6.heap.size by have h9 := hd6.size; (try simp only [World.size_alloc, World.size_setCell] at h9); omega)
      have NQ := Lib.hid (Q.out.dg hd6 (show w1.heap.size ≠ w.heap.size by have := Hgl.out; have := S1.out; have := S2.out; have := S4.out; have := S5.out; have := S6.out; omega))
      have Q := NQ; clear NQ
      have HV := Lib.hid (HV.out.dg hd6 (show w.heap.size < (w.heap.size + 1) by have := Hgl.out; have := S1.out; have := S2.out; have := S4.out; have := S5.out; have := S6.out; omega))
      have Hc6 := Lib.hid (hc6.mono (j := 0 + 122) (by omega))
      have Hd6 := Lib.hid (Hd5.out.trans hd6)
      clear hc6 hd6
      go_wp2
      go_ret
      exact ⟨⟨s2, by omega, rfl⟩, Hd6.out.below (by have := S1.out; have := S2.out; have := S4.out; have := S5.out; have := S6.out; omega) (Nat.le_refl _)⟩
set_option linter.unusedSimpArgs false in
set_option maxRecDepth 8000 in
set_option maxHeartbeats 16000000 in
theorem drawTaskText_any (A : Option Addr) (n c : Nat) (w : World) (hby : BytesAt w w.heap.size A n) :
    Calls Tryz.prog 41 #[.slice A n c] w fun e w' => TkO w' w.heap.size e ∧ Below w.heap.size w w' := by
  have Hb := Lib.hid hby; clear hby
  have HN := Lib.hid (Blk.new w 51 #[.int .i64 0, .int .i64 0, .int .i64 0, .int .i64 0, .int .i64 0, .slice none 0 0])
  go_enter Tryz.func41, Tryz.ntmps41
  go_wp2_with fail
  refine (drawIsTask_any A n c _ (Hb.out.on (bal (Below.refl _ _) _))).mono ?_; rintro e w1 ⟨⟨a, b, m, e9, t, v, nv, hnv, rfl, hv⟩, hb⟩
  obtain ⟨A9, c9, rfl, -, -⟩ := hv.form
  have hR := HN.out.on hb
  have HV := Lib.hid (hv.mono (B' := w.heap.size + 1) (by simp)); have Hb1 := Lib.hid (bthen (bal (Below.refl _ _) _) hb); clear hv hb
  have R := Lib.hid hR
  have q0 := hR.cell 0; have q1 := hR.cell 1; have q2 := hR.cell 2; have q3 := hR.cell 3; have q4 := hR.cell 4; have q5 := hR.cell 5; have ql := hR.lt; have qf := hR.frozen
  simp at q0 q1 q2 q3 q4 q5
  clear hR
  go_wp2
  have HR9 := R.out.set6 (b0 := .int .i64 a) (b1 := .int .i64 b) (b2 := .int .i64 m) (b3 := .int .i64 e9) (b4 := .int .i64 t) (b5 := .slice A9 nv c9)
  have k0 := HR9.cell 0; have k1 := HR9.cell 1; have k2 := HR9.cell 2; have k3 := HR9.cell 3; have k4 := HR9.cell 4; have k5 := HR9.cell 5
  simp at k0 k1 k2 k3 k4 k5
  have hne : ∀ k, (Value.slice A9 nv c9).ownBlock = some k → k ≠ w.heap.size := fun k hk => by have := (HV.out.lt k hk).1; omega
  exact bodyPost_ret (v := .agg #[.int .i64 a, .int .i64 b, .int .i64 m, .int .i64 e9, .int .i64 t, .slice A9 nv c9]) (by simp [results, Tryz.results41, go_sem, k0, k1, k2, k3, k4, k5]) rfl ⟨⟨a, b, m, e9, t, .slice A9 nv c9, nv, hnv, rfl, (((((((HV.out.st (p := ⟨w.heap.size, 0, none⟩) hne _).st (p := ⟨w.heap.size, 1, none⟩) hne _).st (p := ⟨w.heap.size, 2, none⟩) hne _).st (p := ⟨w.heap.size, 3, none⟩) hne _).st (p := ⟨w.heap.size, 4, none⟩) hne _).st (p := ⟨w.heap.size, 5, none⟩) hne _)).mono (by omega)⟩, bst (bst (bst (bst (bst (bst Hb1.out (Nat.le_refl _) _) (Nat.le_refl _) _) (Nat.le_refl _) _) (Nat.le_refl _) _) (Nat.le_refl _) _) (Nat.le_refl _) _⟩
end
end
section
open Go Go.RowKit Go.ChangeShapes Go.WideShapes Go.Deep

section
variable {H : Type} {enc : TypeId × Value → H} {P : Program} {w : World} {base : Nat} {spare : Nat → Bool} {held : Bool}
theorem bounds_u8 {n : Int} (h : (Lit.int .u8 n).wf = true) : 0 ≤ n ∧ n ≤ 255 := by
  simp [Lit.wf, IntKind.min, IntKind.max, IntKind.signed, IntKind.bits] at h
  omega
theorem open_bytesAt {r : Reach} {b0 : Nat} {t e : TypeId} {v : Value} {d : DataW H} {p : List MemPlace} (ht : P.underlying t = some (.slice e)) (he : P.underlying e = some (.int .u8)) (hc1 : P.cellsOf e = 1)
    (hv : Value.okWide P w r b0 t v) (h : DataW.Trod enc P w base spare held t v d p) : ∃ (A : Option Addr) (n c : Nat), v = .slice A n c ∧ BytesAt w w.heap.size A n := by
  obtain ⟨A, len, cap, rfl⟩ := okWide_slice ht hv
  obtain ⟨fuel, hf⟩ := h
  rcases open_slice ht hf with ⟨hcs, _⟩ | ⟨a, len', cap', m, n, D, Pl, hcs, hb, hl, hm, hmm, hx, hcell⟩
  · obtain ⟨rfl, rfl, rfl⟩ : A = none ∧ len = 0 ∧ cap = 0 := by simpa [Value.cells] using hcs
    exact ⟨none, 0, 0, rfl, by decide, fun h0 => absurd h0 (by decide)⟩
  · obtain ⟨rfl, rfl, rfl⟩ : A = some a ∧ len = len' ∧ cap = cap' := by simpa [Value.cells] using hcs
    have hlm : len ≤ m := by rw [hmm]; split <;> omega
    have key : ∀ i, i < len → ∃ b : Nat, b ≤ 255 ∧ w.cell? (a.add (i * 1)) = some (.int .u8 (b : Int)) := by
      intro i hil
      obtain ⟨cs', hc, ht'⟩ := hcell i (by omega)
      rw [hc1] at hc
      obtain ⟨_, hcl, hat⟩ := World.cells?_some hc
      obtain ⟨q, hq, -, hw⟩ := DataW.trod_int he ht'
      obtain ⟨h1, h2⟩ := bounds_u8 hw
      have h3 := hat 0 (by decide)
      rw [hq] at h3
      refine ⟨q.toNat, by omega, ?_⟩
      rw [show ((q.toNat : Nat) : Int) = q by omega]
      have h4 : (a.add (i * 1)).add 0 = a.add (i * 1) := by simp [Addr.add]
      rw [h4] at h3
      exact h3
    refine ⟨some a, len, cap, rfl, Nat.le_trans hl hm, fun h0 => ?_⟩
    obtain ⟨g, off, spot⟩ := a
    obtain ⟨b0, -, h00⟩ := key 0 h0
    have hspot : spot = none := by
      have := h00
      simp only [Nat.zero_mul] at this
      simpa [Addr.add] using World.cell?_spot this
    subst hspot
    have hadd : ∀ x : Nat, (⟨g, off, none⟩ : Addr).add x = ⟨g, off + x, none⟩ := by
      intro x
      unfold Addr.add
      by_cases hx : x = 0 <;> simp [hx]
    have hlt : g < w.heap.size := by
      rw [hadd] at h00
      exact World.block_lt_of_cell? w _ h00
    refine ⟨g, off, rfl, hlt, hlt, fun j hj => ?_⟩
    obtain ⟨b, hb1, hb2⟩ := key j hj
    rw [hadd, Nat.mul_one] at hb2
    exact ⟨b, hb1, hb2⟩
end
end
section
open Go Go.RowKit Go.ChangeShapes Go.WideShapes

def laid3 : List (String × DataW Unit) := [("math/bits.deBruijn32tab", Rows.laid_math_bits_deBruijn32tab), ("math/bits.deBruijn64tab", Rows.laid_math_bits_deBruijn64tab), ("internal/strconv.uint64pow10", Rows.laid_internal_strconv_uint64pow10)]
theorem gPow : Tryz.prog.globalNamed "internal/strconv.uint64pow10" = some 4 := by kernel_rfl
theorem tPow : (Tryz.prog.globals[4]?).map (·.type) = some 198 := by kernel_rfl
theorem pow_data : (Rows.laid_internal_strconv_uint64pow10 : DataW Unit) = Lib.tabData .u64 Lib.pow10Tab := by kernel_rfl
theorem tab_of_laid3 {W : World} (h : laidMetH Tryz.prog laid3 W) : Tab W := by
  rw [MakeChecks.laidMetH_plain _ _ _ (by kernel_rfl)] at h
  obtain ⟨ps, ⟨g0, t0, cs0, f0, p0, q0, hg0, ht0, hv0, hd0, ⟨g1, t1, cs1, f1, p1, q1, hg1, ht1, hv1, hd1, ⟨g2, t2, cs2, f2, p2, q2, hg2, ht2, hv2, hd2, _⟩, _⟩, _⟩, _⟩ := h
  obtain rfl := Option.some.inj (gPow.symm.trans hg2)
  obtain rfl := Option.some.inj (tPow.symm.trans ht2)
  rw [pow_data] at hd2
  unfold Tab Lib.TabIs
  rw [hv2, ← Lib.cells_of_tab Tryz.underlying198 Tryz.underlying76 (by kernel_rfl) (by kernel_rfl) hd2]
theorem door3 (os : Os) (args : Array Value) : laidMetH Tryz.prog laid3 ((World.doorLaid Tryz.prog 72 os).forCall (fun _ _ => 0) ⟨#[], args, []⟩).memory :=
  laidMetH_of_parts3 (fuel := 8) (laidMet_of_run' 8 (by kernel_rfl) (by kernel_rfl)) (by kernel_rfl) (by kernel_rfl)
end
section
open Go Go.RowKit Go.ChangeShapes Go.WideShapes

def laid7 : List (String × DataW Unit) := [("math/bits.deBruijn32tab", Rows.laid_math_bits_deBruijn32tab), ("math/bits.deBruijn64tab", Rows.laid_math_bits_deBruijn64tab), ("internal/strconv.uint64pow10", Rows.laid_internal_strconv_uint64pow10), ("unicode/utf8.acceptRanges", Rows.laid_unicode_utf8_acceptRanges), ("strconv.ErrRange", Rows.laid_strconv_ErrRange), ("strconv.ErrSyntax", Rows.laid_strconv_ErrSyntax), ("unicode/utf8.first", Rows.laid_unicode_utf8_first)]
theorem iface_of_trod {H : Type} {enc : TypeId × Value → H} {P : Program} {w : World} {base : Nat} {sp : Nat → Bool} {fuel : Nat} {t : TypeId} {cs : List Value} {ms : Array (String × TypeId)} {nm : String} {d : DataW H} {p : List MemPlace}
    (ht : P.underlying t = some (.interface ms)) (h : DataW.trod enc P w base sp false fuel t cs = some (.iface nm d, p)) : ∃ u v, cs = [.iface u v] := by
  cases fuel with
  | zero => simp [DataW.trod] at h
  | succ n =>
    unfold DataW.trod at h
    rw [ht] at h
    split at h <;> first | (simp_all; done) | exact ⟨_, _, rfl⟩
theorem gErrSyntax : Tryz.prog.globalNamed "strconv.ErrSyntax" = some 1 := by kernel_rfl
theorem gErrRange : Tryz.prog.globalNamed "strconv.ErrRange" = some 2 := by kernel_rfl
theorem tErrSyntax : (Tryz.prog.globals[1]?).map (·.type) = some 99 := by kernel_rfl
theorem tErrRange : (Tryz.prog.globals[2]?).map (·.type) = some 99 := by kernel_rfl
theorem uError : ∃ ms, Tryz.prog.underlying 99 = some (.interface ms) := ⟨_, Tryz.underlying99⟩
theorem var_iface {W : World} {n : String} {g : Nat} {nm : String} {d : DataW Unit} (hg : Tryz.prog.globalNamed n = some g) (ht : (Tryz.prog.globals[g]?).map (·.type) = some 99) (h : Lib.VarReads Tryz.prog W n (.iface nm d)) : ∃ tp p, W.var? Tryz.prog n = some #[.iface tp p] := by
  obtain ⟨g', t, cs, fuel, p, hg', ht', hv, hd⟩ := h
  obtain rfl := Option.some.inj (hg.symm.trans hg')
  obtain rfl := Option.some.inj (ht.symm.trans ht')
  obtain ⟨ms, hms⟩ := uError
  obtain ⟨u, v, hc⟩ := iface_of_trod hms hd
  obtain ⟨l⟩ := cs
  simp only at hc
  subst hc
  exact ⟨u, v, hv⟩
theorem env_of_laid7 {W : World} (h : laidMetH Tryz.prog laid7 W) (hs : W.ShapedOpen Tryz.prog) : Env W := by
  rw [MakeChecks.laidMetH_plain _ _ _ (by kernel_rfl)] at h
  refine ⟨?_, hs, var_iface gErrSyntax tErrSyntax (Lib.laidMet.reads h (n := "strconv.ErrSyntax") (d := Rows.laid_strconv_ErrSyntax) (by simp [laid7])), var_iface gErrRange tErrRange (Lib.laidMet.reads h (n := "strconv.ErrRange") (d := Rows.laid_strconv_ErrRange) (by simp [laid7]))⟩
  obtain ⟨g2, t2, cs2, f2, p2, hg2, ht2, hv2, hd2⟩ := Lib.laidMet.reads h (n := "internal/strconv.uint64pow10") (d := Rows.laid_internal_strconv_uint64pow10) (by simp [laid7])
  obtain rfl := Option.some.inj (gPow.symm.trans hg2)
  obtain rfl := Option.some.inj (tPow.symm.trans ht2)
  rw [pow_data] at hd2
  unfold Tab Lib.TabIs
  rw [hv2, ← Lib.cells_of_tab Tryz.underlying198 Tryz.underlying76 (by kernel_rfl) (by kernel_rfl) hd2]
theorem door7 (os : Os) (args : Array Value) : laidMetH Tryz.prog laid7 ((World.laidAll Tryz.prog os laid7).forCall (fun _ _ => 0) ⟨#[], args, []⟩).memory := by
  rw [MakeChecks.laidMetH_plain _ _ _ (by kernel_rfl)]
  exact laidMet_laidAll _ (by kernel_rfl) (by kernel_rfl)

/-- The wrap: the contract is handed X of the world, and the world's shape. -/
theorem returns_shaped_and {H : Type} {enc : TypeId × Value → H} {a : Assume} {C : Checked} {os : Os} {f : FuncId} {fn : Func} {s : ChangeSpec} {conds : List PathCond} {apart fresh handsOn again : Bool} {X : World → Array Value → Prop}
    (hX : ∀ (w w' : World) (args : Array Value), w.heap = w'.heap → X w args → X w' args)
    (own : ownKnob C.prog.godebug = none) (started : os.Started) (noInit : C.prog.inits.idxOf? f = none) (hfn : C.prog.funcs[f]? = some fn)
    (witness : ∃ (w : World) (tape : Tape) (i : Input), w.os = os ∧ (w.forCall tape i).Shaped C.prog ∧ i.vars = [] ∧ Input.okWide C.prog (w.forCall tape i) .any w.heap.size f i ∧
      ((s.pre enc C.prog fn conds apart (w.forCall tape i).memory i.args ∧ X (w.forCall tape i).memory i.args) ∧ sizedMet enc C.prog fn (OpenSpec.ofChange s) apart (w.forCall tape i).memory i.args) ∧ a.holds C.prog (lone (Frame.enter C.prog f i.args .normal) [] (w.forCall tape i)))
    (contract : ∀ (W : World) (base : Nat) (args : Array Value) (ds gs : List (DataW H)) (before : List MemPlace),
      (∀ (j : Nat) t v, fn.params[j]? = some t → args[j]? = some v → Value.okWide C.prog W .any base t v) →
      DataW.Whole enc C.prog fn.params.toList s.vars apart W args.toList ds gs before →
      W.ShapedOpen C.prog →
      (DataW.weightsEach C.prog (fn.params.toList ++ s.plain.varTypes C.prog) (ds ++ gs)).all (· ≤ reachBytes) = true → X W args →
      a.holds C.prog (lone (Frame.enter C.prog f args .normal) [] W) →
      Calls C.prog f args W fun e W' => ∃ v, e = .returned v ∧ s.post enc C.prog fn apart fresh handsOn again W args v W') :
    ReturnsInHanded a C os f .any (fun w args => (s.pre enc C.prog fn conds apart w args ∧ X w args) ∧ sizedMet enc C.prog fn (OpenSpec.ofChange s) apart w args) (s.post enc C.prog fn apart fresh handsOn again) := by
  refine returnsInHanded_of_calls own started noInit witness ?_
  intro w tape i _ hsh _ hok hpre hholds
  obtain ⟨_, _, _, fn', hfn', _, _, _, _, hval⟩ := hok
  have e : fn' = fn := Option.some.inj (hfn'.symm.trans hfn)
  subst e
  obtain ⟨⟨⟨ds, gs, before, hw, hc⟩, hx⟩, hz⟩ := hpre
  have hw' := DataW.Whole.of_heap (w' := w.forCall tape i) (by rfl) hw
  refine (contract (w.forCall tape i) w.heap.size i.args ds gs before hval hw' hsh (hz.weights hw) (hX _ _ _ (by rfl) hx) hholds).mono fun e W' ⟨v, he, hp⟩ => ?_
  subst he
  exact ChangeSpec.post_blind hp
end
section
open Go Go.RowKit Go.ChangeShapes Go.WideShapes Go.Deep
theorem open_jrn {H : Type} {enc : TypeId × Value → H} {P : Program} {w : World} {base : Nat} {spare : Nat → Bool} {held : Bool} {r : Reach} {b0 : Nat} {t : TypeId} {f0 f1 : Field} {v : Value} {d : DataW H} {p : List MemPlace}
    (hs : P.underlying t = some (.struct #[f0, f1])) (u0 : P.underlying f0.type = some .string) (u1 : P.underlying f1.type = some .string) (hone : oneCellFields P #[f0, f1] = true) (hC : P.cellsOf t = 2)
    (hv : Value.okWide P w r b0 t v) (h : DataW.Trod enc P w base spare held t v d p) : ∃ D Q : ByteArray, v = .agg #[.string D, .string Q] ∧ D.size ≤ maxLen ∧ Q.size ≤ maxLen := by
  obtain ⟨v0, v1, y0, y1, n, rfl, -, -, h0, h1⟩ := Joins.open_agg2 hs hone hC hv h
  obtain ⟨D, hD, -, hDs⟩ := DataW.trod_string u0 h0
  obtain ⟨Q, hQ, -, hQs⟩ := DataW.trod_string u1 h1
  simp at hD hQ
  subst hD; subst hQ
  exact ⟨D, Q, rfl, hDs, hQs⟩
end
end Go.Proofs.YtnhgdmhiblpknaaGreatDoor
