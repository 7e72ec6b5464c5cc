/- Own lemma that knows no program: an argument that is a struct of ints with one slice of structs of ints as its last field, opened to values and cells. Conditions: none. -/
import Derived.Test.YticbmpjdcanjkaaOpen
namespace Go.Proofs.Yticbmpjdcanjkaa
open Go Go.RowKit Go.ChangeShapes Go.WideShapes Go.Deep

section
variable {H : Type} {enc : TypeId × Value → H} {P : Program} {w : World} {base : Nat} {spare : Nat → Bool} {held : Bool}
/-- The cells of a slice of structs of ints. -/
theorem open_ints_cells {E : Type} (S : Shape E) (mk : (Nat → Int) → E) (hmk : ∀ c j, j < S.size → S.cell (mk c) j = .int .i64 (c j)) {t e : TypeId} {cs : List Value} {fuel : Nat} {x : DataW H × List MemPlace}
    (ht : P.underlying t = some (.slice e)) (hpos : 0 < S.size) (hsz : P.cellsOf e = S.size) (k : Nat) (hi : intsB P k e = true)
    (hf : DataW.trod enc P w base spare held fuel t cs = some x) :
    ∃ (v : Value) (es : List E), cs = [v] ∧ Rd S w w.heap.size v es := by
  rcases open_slice ht hf with ⟨hcs, _⟩ | ⟨a, len, cap, m, n, D, Pl, hcs, hb, hl, hm, hmm, hx, hcell⟩
  · exact ⟨_, [], hcs, Rd.nil _ _⟩
  · have hlm : len ≤ m := by rw [hmm]; split <;> omega
    have key : ∀ i, i < len → ∃ e : E, ∀ j, j < S.size → w.cell? ((a.add (i * S.size)).add j) = some (S.cell e j) := by
      intro i hil
      obtain ⟨cs', hc, ht'⟩ := hcell i (by omega)
      rw [hsz] at hc
      obtain ⟨_, hcl, hat⟩ := World.cells?_some hc
      have hall := ints_of_trod k e n _ _ hi ht'
      refine ⟨mk (fun j => match cs'[j]? with | some (.int _ q) => q | _ => 0), fun j hj => ?_⟩
      rw [hat j hj, hmk _ j hj]
      have hjl : j < cs'.length := by omega
      rw [List.getElem?_eq_getElem hjl]
      obtain ⟨q, hq, _⟩ := hall cs'[j] (List.getElem_mem hjl)
      rw [hq]
    obtain ⟨es, hlen, hes⟩ := choose_list S (fun i e => ∀ j, j < S.size → w.cell? ((a.add (i * S.size)).add j) = some (S.cell e j)) len key
    subst hlen
    refine ⟨_, es, hcs, some a, cap, rfl, hl, hm, fun h0 => ?_⟩
    have h00 := hes 0 h0 0 hpos
    obtain ⟨g, off, spot⟩ := a
    have hspot : spot = none := by
      have := h00
      simp only [Nat.zero_mul] at this
      simpa [Addr.add] using World.cell?_spot this
    subst hspot
    have hadd : ∀ x y : Nat, ((⟨g, off, none⟩ : Addr).add x).add y = ⟨g, off + x + y, none⟩ := by
      intro x y
      unfold Addr.add
      by_cases hx : x = 0 <;> by_cases hy : y = 0 <;> simp [hx, hy]
    refine ⟨g, off, rfl, ?_, fun q hq j hj => ?_⟩
    · rw [hadd] at h00
      exact World.block_lt_of_cell? w _ h00
    · have := hes q hq j hj
      rw [hadd] at this
      exact this

/-- The fields of a struct but for its last one are ints that lie in the first m cells; the last one lies in cell m. -/
def headB (P : Program) (fs : Array Field) (L m : Nat) : Bool :=
  match fs[L]? with
  | some fl => fl.offset == m && P.cellsOf fl.type == 1 && (fs.toList.take L).all (fun f => intsB P 5 f.type) && ((fs.toList.take L).flatMap (fun f => List.range' f.offset (P.cellsOf f.type)) == List.range m)
  | none => false
theorem open_ints_tail {E : Type} (S : Shape E) (mk : (Nat → Int) → E) (hmk : ∀ c j, j < S.size → S.cell (mk c) j = .int .i64 (c j)) {r : Reach} {b0 : Nat} {t ts e : TypeId} {fs : Array Field} {v : Value} {d : DataW H} {p : List MemPlace}
    (hs : P.underlying t = some (.struct fs)) (L m : Nat) (hh : headB P fs L m = true) (hc : P.cellsOf t = m + 1) (hfl : fs[L]?.map (·.type) = some ts) (hu : P.underlying ts = some (.slice e)) (hpos : 0 < S.size) (hsz : P.cellsOf e = S.size) (hi : intsB P 5 e = true)
    (hv : Value.okWide P w r b0 t v) (h : DataW.Trod enc P w base spare held t v d p) :
    ∃ (ns : List Int) (u : Value) (es : List E), ns.length = m ∧ v = .agg (ns.map (Value.int .i64) ++ [u]).toArray ∧ (∀ n ∈ ns, (Lit.int .i64 n).wf = true) ∧ Rd S w w.heap.size u es := by
  obtain ⟨cs, rfl, hcsz⟩ := okWide_struct hs hv
  obtain ⟨fuel, hf⟩ := h
  obtain ⟨xs, n', hn', hx, hlen, hxl, hff⟩ := DataW.trod_struct hs hf
  unfold headB at hh
  cases hL : fs[L]? with
  | none => rw [hL] at hh; cases hh
  | some fl =>
    rw [hL] at hh hfl
    simp only [Bool.and_eq_true, beq_iff_eq, Option.map_some, Option.some.injEq] at hh hfl
    obtain ⟨⟨⟨hoff, hc1⟩, hall⟩, hcov⟩ := hh
    have hLx : L < xs.length := by
      rw [hxl]
      exact (Array.getElem?_eq_some_iff.1 hL).1
    have h1 := hff L fl hL
    rw [List.getElem?_eq_getElem hLx, hoff, hc1, hfl] at h1
    obtain ⟨u, es, hu1, hrd⟩ := open_ints_cells S mk hmk hu hpos hsz 5 hi h1
    have hsize : cs.size = m + 1 := by rw [hcsz, hc]
    have hfront : ∀ c ∈ cs.toList.take m, ∃ q, c = .int .i64 q ∧ (Lit.int .i64 q).wf = true := by
      intro c hcm
      obtain ⟨j, hj, rfl⟩ := List.mem_iff_getElem.1 hcm
      have hjm : j < m := by rw [List.length_take] at hj; omega
      have hmem : j ∈ (fs.toList.take L).flatMap (fun f => List.range' f.offset (P.cellsOf f.type)) := by rw [hcov]; exact List.mem_range.2 hjm
      obtain ⟨f, hfm, hjr⟩ := List.mem_flatMap.1 hmem
      obtain ⟨i, hi2, hfi⟩ := List.mem_iff_getElem.1 hfm
      have hiL : i < L := by rw [List.length_take] at hi2; omega
      have hfs : fs[i]? = some f := by
        rw [List.getElem_take] at hfi
        have : fs.toList[i]? = some f := by rw [List.getElem?_eq_getElem (by rw [List.length_take] at hi2; omega), hfi]
        simpa using this
      have h2 := hff i f hfs
      rw [List.getElem?_eq_getElem (by omega)] at h2
      refine ints_of_trod 5 f.type n' _ _ (List.all_eq_true.1 hall f hfm) h2 _ ?_
      obtain ⟨hlo, hhi⟩ := List.mem_range'_1.1 hjr
      rw [List.mem_iff_getElem?]
      refine ⟨j - f.offset, ?_⟩
      rw [List.getElem?_take_of_lt (by omega), List.getElem?_drop]
      have : f.offset + (j - f.offset) = j := by omega
      rw [this, List.getElem_take]
      rw [List.getElem?_eq_getElem (by show j < cs.toList.length; rw [Array.length_toList]; omega)]
      rfl
    have hlist : ∀ l : List Value, (∀ c ∈ l, ∃ m, c = .int .i64 m ∧ (Lit.int .i64 m).wf = true) → ∃ ns : List Int, l = ns.map (Value.int .i64) ∧ ∀ n ∈ ns, (Lit.int .i64 n).wf = true := by
      intro l
      induction l with
      | nil => exact fun _ => ⟨[], rfl, by simp⟩
      | cons c l ih =>
        intro hl
        obtain ⟨m, rfl, hm⟩ := hl c (by simp)
        obtain ⟨ns, rfl, hns⟩ := ih (fun c hc => hl c (by simp [hc]))
        exact ⟨m :: ns, rfl, by simp [hm]; exact hns⟩
    obtain ⟨ns, hns, hwf⟩ := hlist _ hfront
    refine ⟨ns, u, es, ?_, ?_, hwf, hrd⟩
    · have := congrArg List.length hns
      rw [List.length_take, List.length_map, Array.length_toList] at this
      omega
    · have hd : cs.toList.drop m = [u] := by
        have h3 : (cs.toList.drop m).take 1 = [u] := hu1
        rwa [List.take_of_length_le (by rw [List.length_drop, Array.length_toList]; omega)] at h3
      have : cs.toList = ns.map (Value.int .i64) ++ [u] := by rw [← hns, ← hd, List.take_append_drop]
      rw [← this]
end
end Go.Proofs.Yticbmpjdcanjkaa
