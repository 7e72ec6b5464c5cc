/- Own lemmas that know no program: arguments that are ints, structs of ints, slices of structs of ints, opened to values and cells; a law's last step. Conditions: none. -/
import Derived.Test.YtnhgdmhiblpknaaKit
import Derived.ProofKit
import Derived.Deep.Slices
namespace Go.Proofs.Ytnhgdmhiblpknaa
open Go Go.RowKit Go.ChangeShapes Go.WideShapes Go.Deep

/-- A type all of whose cells are of type int64 (an int, or a struct of such). -/
def intsB (P : Program) : Nat → TypeId → Bool
  | 0, _ => false
  | n + 1, t => match P.underlying t with
    | some (.int k) => k == .i64
    | some (.struct fs) => fs.toList.all (fun f => intsB P n f.type) && (fs.toList.flatMap (fun f => List.range' f.offset (P.cellsOf f.type)) == List.range (P.cellsOf t))
    | _ => false

section
variable {H : Type} {enc : TypeId × Value → H} {P : Program} {w : World} {base : Nat} {spare : Nat → Bool} {held : Bool}

theorem ints_of_trod : ∀ (n : Nat) (t : TypeId) (fuel : Nat) (cs : List Value) (x : DataW H × List MemPlace), intsB P n t = true → DataW.trod enc P w base spare held fuel t cs = some x →
    ∀ c ∈ cs, ∃ m, c = .int .i64 m ∧ (Lit.int .i64 m).wf = true := by
  intro n
  induction n with
  | zero => intro t fuel cs x h; simp [intsB] at h
  | succ n ih =>
    intro t fuel cs x h ht c hc
    unfold intsB at h
    split at h
    · rename_i k hk
      obtain rfl : k = .i64 := by simpa using h
      obtain ⟨fuel, rfl⟩ : ∃ f, fuel = f + 1 := by cases fuel with
        | zero => simp [DataW.trod] at ht
        | succ f => exact ⟨f, rfl⟩
      unfold DataW.trod at ht
      rw [hk] at ht
      split at ht <;> simp_all
    · rename_i fs hk
      simp only [Bool.and_eq_true, beq_iff_eq] at h
      obtain ⟨xs, n', hn', hx, hlen, hxl, hf⟩ := DataW.trod_struct hk ht
      obtain ⟨j, hj, rfl⟩ := List.mem_iff_getElem.1 hc
      have hmem : j ∈ fs.toList.flatMap (fun f => List.range' f.offset (P.cellsOf f.type)) := by
        rw [h.2]; exact List.mem_range.2 (by omega)
      obtain ⟨f, hfm, hjr⟩ := List.mem_flatMap.1 hmem
      obtain ⟨i, hi, hfi⟩ := List.mem_iff_getElem.1 hfm
      have hfs : fs[i]? = some f := by
        have : fs.toList[i]? = some f := by rw [List.getElem?_eq_getElem hi, hfi]
        simpa using this
      have h1 := hf i f hfs
      have hil : i < xs.length := by rw [hxl]; simpa using hi
      rw [List.getElem?_eq_getElem hil] at h1
      refine ih f.type n' _ _ (by have := List.all_eq_true.1 h.1 f hfm; exact this) h1 _ ?_
      obtain ⟨hlo, hhi⟩ := List.mem_range'_1.1 hjr
      rw [List.mem_iff_getElem?]
      refine ⟨j - f.offset, ?_⟩
      rw [List.getElem?_take_of_lt (by omega), List.getElem?_drop]
      have : f.offset + (j - f.offset) = j := by omega
      rw [this, List.getElem?_eq_getElem hj]
    · cases h

/-- A struct of ints by value. -/
theorem open_ints_agg {r : Reach} {b0 : Nat} {t : TypeId} {fs : Array Field} {v : Value} {d : DataW H} {p : List MemPlace} (hs : P.underlying t = some (.struct fs)) (k : Nat) (hi : intsB P k t = true)
    (hv : Value.okWide P w r b0 t v) (h : DataW.Trod enc P w base spare held t v d p) :
    ∃ ns : List Int, ns.length = P.cellsOf t ∧ v = .agg (ns.map (Value.int .i64)).toArray ∧ ∀ n ∈ ns, (Lit.int .i64 n).wf = true := by
  obtain ⟨cs, rfl, hsz⟩ := okWide_struct hs hv
  obtain ⟨fuel, hf⟩ := h
  have hall := ints_of_trod k t fuel _ _ hi hf
  have : ∀ l : List Value, (∀ c ∈ l, ∃ m, c = .int .i64 m ∧ (Lit.int .i64 m).wf = true) → ∃ ns : List Int, l = ns.map (Value.int .i64) ∧ ∀ n ∈ ns, (Lit.int .i64 n).wf = true := by
    intro l
    induction l with
    | nil => exact fun _ => ⟨[], rfl, by simp⟩
    | cons c l ih =>
      intro hl
      obtain ⟨m, rfl, hm⟩ := hl c (by simp)
      obtain ⟨ns, rfl, hns⟩ := ih (fun c hc => hl c (by simp [hc]))
      exact ⟨m :: ns, rfl, by simp [hm]; exact hns⟩
  obtain ⟨ns, hns, hwf⟩ := this cs.toList hall
  refine ⟨ns, ?_, ?_, hwf⟩
  · have : cs.toList.length = ns.length := by rw [hns]; simp
    simp at this
    omega
  · rw [← hns]

theorem choose_list {E : Type} (S : Shape E) (p : Nat → E → Prop) : ∀ n : Nat, (∀ i, i < n → ∃ e, p i e) → ∃ es : List E, es.length = n ∧ ∀ i, i < n → p i (S.get es i)
  | 0, _ => ⟨[], rfl, fun i hi => absurd hi (by omega)⟩
  | n + 1, h => by
    obtain ⟨es, hl, hes⟩ := choose_list S p n (fun i hi => h i (by omega))
    obtain ⟨e, he⟩ := h n (by omega)
    refine ⟨es ++ [e], by simp [hl], fun i hi => ?_⟩
    rcases Nat.lt_or_ge i n with h1 | h1
    · have := hes i h1
      unfold Shape.get at this ⊢
      rw [List.getD_eq_getElem?_getD, List.getElem?_append_left (by omega), ← List.getD_eq_getElem?_getD]
      exact this
    · obtain rfl : i = n := by omega
      unfold Shape.get
      rw [List.getD_eq_getElem?_getD, List.getElem?_append_right (by omega), hl]
      simpa using he

/-- A slice of structs of ints. -/
theorem open_ints_slice {E : Type} (S : Shape E) (mk : (Nat → Int) → E) (hmk : ∀ c j, j < S.size → S.cell (mk c) j = .int .i64 (c j)) {r : Reach} {b0 : Nat} {t e : TypeId} {v : Value} {d : DataW H} {p : List MemPlace}
    (ht : P.underlying t = some (.slice e)) (hpos : 0 < S.size) (hsz : P.cellsOf e = S.size) (k : Nat) (hi : intsB P k e = true)
    (hv : Value.okWide P w r b0 t v) (h : DataW.Trod enc P w base spare held t v d p) :
    ∃ es : List E, Rd S w w.heap.size v es := by
  obtain ⟨A, len, cap, rfl⟩ := okWide_slice ht hv
  obtain ⟨fuel, hf⟩ := h
  rcases open_slice ht hf with ⟨hcs, _⟩ | ⟨a, len', cap', m, n, D, Pl, hcs, hb, hl, hm, hmm, hx, hcell⟩
  · obtain ⟨rfl, rfl, rfl⟩ : A = none ∧ len = 0 ∧ cap = 0 := by simpa [Value.cells] using hcs
    exact ⟨[], Rd.nil _ _⟩
  · obtain ⟨rfl, rfl, rfl⟩ : A = some a ∧ len = len' ∧ cap = cap' := by simpa [Value.cells] using hcs
    have hlm : len ≤ m := by rw [hmm]; split <;> omega
    have key : ∀ i, i < len → ∃ e : E, ∀ j, j < S.size → w.cell? ((a.add (i * S.size)).add j) = some (S.cell e j) := by
      intro i hil
      obtain ⟨cs', hc, ht'⟩ := hcell i (by omega)
      rw [hsz] at hc
      obtain ⟨_, hcl, hat⟩ := World.cells?_some hc
      have hall := ints_of_trod k e n _ _ hi ht'
      refine ⟨mk (fun j => match cs'[j]? with | some (.int _ q) => q | _ => 0), fun j hj => ?_⟩
      rw [hat j hj, hmk _ j hj]
      have hjl : j < cs'.length := by omega
      rw [List.getElem?_eq_getElem hjl]
      obtain ⟨q, hq, _⟩ := hall cs'[j] (List.getElem_mem hjl)
      rw [hq]
    obtain ⟨es, hlen, hes⟩ := choose_list S (fun i e => ∀ j, j < S.size → w.cell? ((a.add (i * S.size)).add j) = some (S.cell e j)) len key
    subst hlen
    refine ⟨es, some a, cap, rfl, hl, hm, fun h0 => ?_⟩
    have h00 := hes 0 h0 0 hpos
    obtain ⟨g, off, spot⟩ := a
    have hspot : spot = none := by
      have := h00
      simp only [Nat.zero_mul] at this
      simpa [Addr.add] using World.cell?_spot this
    subst hspot
    have hadd : ∀ x y : Nat, ((⟨g, off, none⟩ : Addr).add x).add y = ⟨g, off + x + y, none⟩ := by
      intro x y
      unfold Addr.add
      by_cases hx : x = 0 <;> by_cases hy : y = 0 <;> simp [hx, hy]
    refine ⟨g, off, rfl, ?_, fun q hq j hj => ?_⟩
    · rw [hadd] at h00
      exact World.block_lt_of_cell? w _ h00
    · have := hes q hq j hj
      rw [hadd] at this
      exact this

/-- A law's last step: of what was there nothing has turned. -/
theorem post_below {f : Func} {s : ChangeSpec} {W W' : World} {args : Array Value} {v : Value} {ds : List (DataW H)} {before pa : List MemPlace}
    (hW : DataW.Whole enc P f.params.toList s.vars false W args.toList ds [] before)
    (hres : DataW.TrodAll enc P W' W.heap.size (fun _ => false) false f.resultTypes.toList (v.resultList f.resultTypes.size) (s.fn H (ds ++ [])).results [])
    (hargs : DataW.TrodAll enc P W' 0 (fun b => decide (b < W.heap.size)) true f.params.toList args.toList (s.fn H (ds ++ [])).args pa)
    (hvars : DataW.TrodVars enc P W' (fun b => decide (b < W.heap.size)) s.vars (s.fn H (ds ++ [])).vars [])
    (hps : before = pa) (hb : Below W.heap.size W W') :
    s.post enc P f false true false false W args v W' := by
  have hlt : ∀ p ∈ before, p.block < W.heap.size := fun p hp => hW.lt p hp
  refine ⟨ds, [], before, [], pa, [], hW, hres, hargs, hvars, World.keptBut_mono (fun p hp => ⟨hp, ?_⟩) (hb.frame (· ∈ before)), fun h => by cases h⟩
  rw [hps] at hp
  exact Or.inr (by simpa using hp)

theorem list2 {l : List Int} (h : l.length = 2) : ∃ a b, l = [a, b] := by
  match l, h with
  | [a, b], _ => exact ⟨a, b, rfl⟩
theorem list3 {l : List Int} (h : l.length = 3) : ∃ a b c, l = [a, b, c] := by
  match l, h with
  | [a, b, c], _ => exact ⟨a, b, c, rfl⟩
theorem list4 {l : List Int} (h : l.length = 4) : ∃ a b c d, l = [a, b, c, d] := by
  match l, h with
  | [a, b, c, d], _ => exact ⟨a, b, c, d, rfl⟩
theorem list5 {l : List Int} (h : l.length = 5) : ∃ a b c d e, l = [a, b, c, d, e] := by
  match l, h with
  | [a, b, c, d, e], _ => exact ⟨a, b, c, d, e, rfl⟩
theorem list7 {l : List Int} (h : l.length = 7) : ∃ a b c d e f g, l = [a, b, c, d, e, f, g] := by
  match l, h with
  | [a, b, c, d, e, f, g], _ => exact ⟨a, b, c, d, e, f, g, rfl⟩
end
end Go.Proofs.Ytnhgdmhiblpknaa
