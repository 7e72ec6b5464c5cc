/- Own lemmas that know no program: appends inside a region that draws its order. Conditions: none. -/
import Derived.Test.YtnhgdmhiblpknaaRow2
import Derived.Deep.RegionHeld3
import Derived.Maps.AppendAt
namespace Go.Proofs.Ytnhgdmhiblpknaa
open Go Go.RowKit

section
variable {P : Program}
theorem run_append_src (w : World) (base : Nat) (t ty e : TypeId) (i : TypeInfo) (z : Value) (size bytes : Nat) (ht : P.underlying t = some (.slice e)) (hi : P.info? e = some i) (hz : i.zero = some z)
    (hsize : i.size = size) (hby : i.bytes = bytes) (hzs : z.cells.size = size) (hsz : 0 < size)
    (v : Value) (n : Nat) (xs : List Value) (hown : w.ownsRow base e size v n xs)
    (A : Option Addr) (m c : Nat) (news : List Value) (hl : news.length = m * size) (hA : A = none → m = 0) (hnews : ∀ a, A = some a → ∀ j u, news[j]? = some u → w.cell? (a.add j) = some u) (h1 : ∀ u ∈ news, u.oneCell' = true)
    (h63 : n + m ≤ maxLen) (hbytes : (n + m) * bytes ≤ 140737488355328) (hbase : base ≤ w.heap.size) :
    ∃ v' w', (Builtin.append_ #[t, t] ty #[v, .slice A m c]).run P w = .ok v' w' ∧ w'.ownsRow base e size v' (n + m) (xs ++ news) ∧ w.grownBy w' v.ownBlock ∧ (v'.ownBlock = v.ownBlock ∨ v'.ownBlock = some w.heap.size) := by
  cases A with
  | none =>
    obtain rfl := hA rfl
    obtain rfl : news = [] := List.eq_nil_of_length_eq_zero (by simpa using hl)
    refine ⟨v, w, ?_, by simpa using hown, grefl _ _, .inl rfl⟩
    rcases hown.2 with ⟨rfl, rfl⟩ | ⟨g, cap, cur, rfl, _, _, hnc, _⟩
    · simp [Builtin.append_, run_underlying ht, sizeOf, typeInfo, hi, Builtin.lenOf, Builtin.firstCells]
    · simp [Builtin.append_, run_underlying ht, sizeOf, typeInfo, hi, Builtin.lenOf, Builtin.firstCells, hnc, storeCells]
  | some a =>
    obtain ⟨v', w', h2, h3, h4, -, h5⟩ := run_append_own_at w base t ty e i z size bytes ht hi hz hsize hby hzs hsz v n xs hown a m c news hl (hnews a rfl) h1 h63 hbytes hbase
    exact ⟨v', w', h2, h3, h4, h5⟩
/-- An append at a step of a region that draws its order: the row is the call's own, above all that was there in w0. -/
theorem step_append_src {ops : Array Oper} {o : Oper} {a : Act} {w : World} {K : Act → World → Prop} {Q : Exit → Act → World → Prop} {E : Prop} (hgd : o.guard = none) (s x : Operand) (t : TypeId)
    (ho : o.op = .call { callee := .builtin .append, args := #[s, x], argTypes := #[t, t] })
    (e : TypeId) (i : TypeInfo) (z : Value) (size bytes : Nat) (ht : P.underlying t = some (.slice e)) (hi : P.info? e = some i) (hz : i.zero = some z)
    (hsize : i.size = size) (hby : i.bytes = bytes) (hzs : z.cells.size = size) (hsz : 0 < size) (w0 : World) (hb : Below w0.heap.size w0 w)
    (v : Value) (n : Nat) (xs : List Value) (hs : a.eval s = v) (hown : w.ownsRow w0.heap.size e size v n xs)
    (A : Option Addr) (m c : Nat) (news : List Value) (hx : a.eval x = .slice A m c) (hl : news.length = m * size) (hA : A = none → m = 0) (hnews : ∀ a, A = some a → ∀ j u, news[j]? = some u → w.cell? (a.add j) = some u) (h1 : ∀ u ∈ news, u.oneCell' = true)
    (h63 : n + m ≤ maxLen) (hbytes : (n + m) * bytes ≤ 140737488355328)
    (h : ∀ v' w', w'.ownsRow w0.heap.size e size v' (n + m) (xs ++ news) → Below w0.heap.size w0 w' → (∀ b t cs, Blk w b t cs → v.ownBlock ≠ some b → Blk w' b t cs) → K (a.put o.dst v') w') :
    if Region.wanted o (yielded ops a.tmps) = true then Oper.wp P o a w K Q else E := by
  have hw : Region.wanted o (yielded ops a.tmps) = true := by simp [Region.wanted, hgd]
  rw [if_pos hw]
  obtain ⟨v', w', hr, h2, h3, -⟩ := run_append_src (P := P) w w0.heap.size t o.type e i z size bytes ht hi hz hsize hby hzs hsz v n xs hown A m c news hl hA hnews h1 h63 hbytes hb.size
  unfold Oper.wp execOp
  simp only [ho, resolve, invoke, builtin, Sem.run_bind, Sem.run_pure, Result.andThen_ok, List.map_toArray, List.map_cons, List.map_nil, hs, hx, hr]
  exact h v' w' h2 (Below.grown hb h3 hb.size (fun k hk => (hown.lt k hk).1)) (fun b t cs hB hne => (h3.block b hB.lt (fun e => hne e.symm)).trans hB)
end
theorem src_below {w0 w : World} {A : Option Addr} {news : List Value} (hb : Below w0.heap.size w0 w) (h : ∀ a, A = some a → ∀ j u, news[j]? = some u → w0.cell? (a.add j) = some u) : ∀ a, A = some a → ∀ j u, news[j]? = some u → w.cell? (a.add j) = some u := by
  intro a ha j u hj
  have := h a ha j u hj
  rw [hb.cell (World.block_lt_of_cell? w0 _ this)]
  exact this
theorem own_empty {X w0 : World} {e : TypeId} {size : Nat} (h : w0.heap.size ≤ X.heap.size) : (X.alloc (.cells #[] e)).ownsRow w0.heap.size e size (.slice (some ⟨X.heap.size, 0, none⟩) 0 0) 0 [] :=
  World.ownsRow_lit X #[] 0 h (by unfold maxLen; omega) (by simp)
theorem own_empty1 {X w0 : World} {o : Obj} {e : TypeId} {size : Nat} (h : w0.heap.size ≤ X.heap.size) : ((X.alloc o).alloc (.cells #[] e)).ownsRow w0.heap.size e size (.slice (some ⟨X.heap.size + 1, 0, none⟩) 0 0) 0 [] := by
  have := own_empty (X := X.alloc o) (w0 := w0) (e := e) (size := size) (by simp; omega)
  rw [World.size_alloc] at this
  exact this
theorem lit_src {w : World} {b : Nat} {news : List Value} (h : ∀ j u, news[j]? = some u → w.cell? ((⟨b, 0, none⟩ : Addr).add j) = some u) : ∀ a, some (⟨b, 0, none⟩ : Addr) = some a → ∀ j u, news[j]? = some u → w.cell? (a.add j) = some u := by
  intro a ha
  cases ha
  exact h
theorem ob_ne {v : Value} {x n c b : Nat} (hv : v = .slice (some ⟨x, 0, none⟩) n c) (h : x ≠ b) : v.ownBlock ≠ some b := by
  subst hv
  simpa [Value.ownBlock] using h
end Go.Proofs.Ytnhgdmhiblpknaa
