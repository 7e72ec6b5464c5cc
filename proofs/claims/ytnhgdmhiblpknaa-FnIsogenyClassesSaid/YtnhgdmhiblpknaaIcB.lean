/- The plain law of isogeny classes: what the search over neighbours finds, from whichever curve of the class; the steps; the edges. Conditions: none. -/
import Derived.Test.YtnhgdmhiblpknaaIcD
namespace Go.Proofs.Ytnhgdmhiblpknaa
open Go Go.RowKit

/-- A smallest model. -/
def gdC (x : Cu) : Prop := curveB x.a x.b = true ∧ mn x.a x.b
theorem gdC_sm {a b : Int} (h : curveB a b = true) : gdC (smC a b) := ⟨smC_good h, (smC_mn h).1⟩
theorem gdC_one {x : Cu} (h : gdC x) : smU x.a x.b = 1 := mn_smU h.2
theorem gdC_self {x : Cu} (h : gdC x) : smC x.a x.b = x := smC_one (gdC_one h)
theorem al_mem {x : Cu} (hx : curveB x.a x.b = true) {y : Cu} (hy : y ∈ (alC x).1) : ∃ e, evZ x.a x.b e = 0 ∧ nbV x.a x.b e = some y := by
  unfold alC allV at hy
  cases h : nbsF x.a x.b (rootsV x.a x.b) with
  | none => rw [h] at hy; simp at hy
  | some l =>
    rw [h] at hy
    rw [setC_mem, nbsF_mem h] at hy
    obtain ⟨e, he, h2⟩ := hy
    exact ⟨e, (roots_mem hx).1 he, h2⟩
theorem al_mem_ok {x : Cu} (hx : curveB x.a x.b = true) (ho : (alC x).2 = true) {y : Cu} : y ∈ (alC x).1 ↔ ∃ e, evZ x.a x.b e = 0 ∧ nbV x.a x.b e = some y := by
  refine ⟨al_mem hx, ?_⟩
  rintro ⟨e, he, h2⟩
  unfold alC allV at ho ⊢
  cases h : nbsF x.a x.b (rootsV x.a x.b) with
  | none => rw [h] at ho; simp at ho
  | some l =>
    simp only
    rw [setC_mem, nbsF_mem h]
    exact ⟨e, (roots_mem hx).2 he, h2⟩
theorem nb_gd {x y : Cu} (hx : curveB x.a x.b = true) (hy : y ∈ (alC x).1) : gdC y := by
  obtain ⟨e, he, h2⟩ := al_mem hx hy
  obtain ⟨s, -, -, -, hm⟩ := nbV_some hx he h2
  exact ⟨(nbV_good h2).1, hm⟩
/-- Neighbours go both ways. -/
theorem nb_sym {x y : Cu} (hx : gdC x) (hy : y ∈ (alC x).1) (ho : (alC y).2 = true) : x ∈ (alC y).1 := by
  obtain ⟨e, he, h2⟩ := al_mem hx.1 hy
  obtain ⟨f, hf, h3⟩ := nb_back hx.1 he h2
  rw [gdC_self hx] at h3
  exact (al_mem_ok (nb_gd hx.1 hy).1 ho).2 ⟨f, hf, h3⟩

/-! ### The search -/
def addT (s : Int) : List Cu → List (Cu × Int) → List (Cu × Int)
  | [], T => T
  | d :: l, T => if d ∈ T.map Prod.fst then addT s l T else addT s l (T ++ [(d, s)])
theorem addT_one (s : Int) (d : Cu) (T : List (Cu × Int)) : addT s [d] T = if d ∈ T.map Prod.fst then T else T ++ [(d, s)] := by
  unfold addT
  split <;> rfl
theorem addT_snoc (s : Int) (d : Cu) : ∀ (l : List Cu) (T : List (Cu × Int)), addT s (l ++ [d]) T = if d ∈ (addT s l T).map Prod.fst then addT s l T else addT s l T ++ [(d, s)]
  | [], T => addT_one s d T
  | x :: l, T => by
    have ih := addT_snoc s d l
    simp only [List.cons_append, addT]
    split
    · exact ih T
    · exact ih _
def bfs : Nat → Nat → List (Cu × Int) → Option (List (Cu × Int))
  | 0, _, _ => none
  | f + 1, i, T => match T[i]? with
    | none => some T
    | some x => if (alC x.1).2 = true then (if (addT (x.2 + 1) (alC x.1).1 T).length ≤ 8 then bfs f (i + 1) (addT (x.2 + 1) (alC x.1).1 T) else none) else none
def clsV (a b : Int) : Option (List (Cu × Int)) := bfs 9 0 [(smC a b, 0)]
theorem bfs_end {f i : Nat} {T : List (Cu × Int)} (h : T.length ≤ i) : bfs (f + 1) i T = some T := by
  unfold bfs
  rw [List.getElem?_eq_none h]
theorem bfs_bad {f i : Nat} {T : List (Cu × Int)} (h : i < T.length) (ho : (alC T[i].1).2 = false) : bfs (f + 1) i T = none := by
  unfold bfs
  rw [List.getElem?_eq_getElem h]
  simp [ho]
theorem bfs_long {f i : Nat} {T : List (Cu × Int)} (h : i < T.length) (hl : 8 < (addT (T[i].2 + 1) (alC T[i].1).1 T).length) : bfs (f + 1) i T = none := by
  unfold bfs
  rw [List.getElem?_eq_getElem h]
  simp only
  rw [if_neg (show ¬ (addT (T[i].2 + 1) (alC T[i].1).1 T).length ≤ 8 by omega)]
  split <;> rfl
theorem bfs_step {f i : Nat} {T : List (Cu × Int)} (h : i < T.length) (ho : (alC T[i].1).2 = true) (hl : (addT (T[i].2 + 1) (alC T[i].1).1 T).length ≤ 8) : bfs (f + 1) i T = bfs f (i + 1) (addT (T[i].2 + 1) (alC T[i].1).1 T) := by
  conv => lhs; unfold bfs
  rw [List.getElem?_eq_getElem h]
  simp only
  rw [if_pos ho, if_pos hl]

/-- What holds in the search. -/
structure Srch (m : Cu) (i : Nat) (T : List (Cu × Int)) : Prop where
  nod : (T.map Prod.fst).Nodup
  hd : T[0]? = some (m, 0)
  gd : ∀ q ∈ T, gdC q.1 ∧ 0 ≤ q.2
  par : ∀ k (h : k < T.length), 0 < k → ∃ j, ∃ hj : j < k, T[k].1 ∈ (alC (T[j]'(Nat.lt_trans hj h)).1).1 ∧ T[k].2 = (T[j]'(Nat.lt_trans hj h)).2 + 1
  don : ∀ j (h : j < T.length), j < i → (alC T[j].1).2 = true ∧ ∀ y ∈ (alC T[j].1).1, ∃ q ∈ T, q.1 = y ∧ q.2 ≤ T[j].2 + 1
  mono : T.Pairwise (fun p q => p.2 ≤ q.2)
  top : ∀ q ∈ T, ∀ h : i < T.length, q.2 ≤ T[i].2 + 1
theorem Srch.start {m : Cu} (h : gdC m) : Srch m 0 [(m, 0)] where
  nod := by simp
  hd := rfl
  gd q hq := by rw [List.mem_singleton] at hq; subst hq; exact ⟨h, Int.le_refl _⟩
  par k hk h0 := by simp at hk; omega
  don j _ hj := absurd hj (Nat.not_lt_zero _)
  mono := by simp
  top q hq _ := by rw [List.mem_singleton] at hq; subst hq; simp
/-- One curve more. -/
theorem Srch.more {m d : Cu} {i : Nat} {T : List (Cu × Int)} (h : Srch m i T) (hi : i < T.length) (hd : d ∈ (alC T[i].1).1) (hn : d ∉ T.map Prod.fst) : Srch m i (T ++ [(d, T[i].2 + 1)]) where
  nod := by
    rw [List.map_append, List.nodup_append]
    refine ⟨h.nod, by simp, fun x hx y hy => ?_⟩
    simp only [List.map_cons, List.map_nil, List.mem_singleton] at hy
    subst hy
    exact fun e => hn (e ▸ hx)
  hd := by rw [List.getElem?_append_left (by omega)]; exact h.hd
  gd q hq := by
    rw [List.mem_append, List.mem_singleton] at hq
    rcases hq with hq | rfl
    · exact h.gd q hq
    · have := h.gd T[i] (List.getElem_mem hi)
      exact ⟨nb_gd this.1.1 hd, by simp only; omega⟩
  par k hk h0 := by
    rw [List.length_append, List.length_singleton] at hk
    rcases Nat.lt_or_ge k T.length with h1 | h1
    · obtain ⟨j, hj, h2⟩ := h.par k h1 h0
      refine ⟨j, hj, ?_⟩
      rw [List.getElem_append_left h1, List.getElem_append_left (Nat.lt_trans hj h1)]
      exact h2
    · obtain rfl : k = T.length := by omega
      refine ⟨i, hi, ?_⟩
      rw [List.getElem_append_right (Nat.le_refl _), List.getElem_append_left hi]
      simp [hd]
  don j hj hji := by
    have h1 : j < T.length := by omega
    obtain ⟨h2, h3⟩ := h.don j h1 hji
    rw [List.getElem_append_left h1]
    refine ⟨h2, fun y hy => ?_⟩
    obtain ⟨q, hq, h4⟩ := h3 y hy
    exact ⟨q, List.mem_append_left _ hq, h4⟩
  mono := by
    rw [List.pairwise_append]
    refine ⟨h.mono, by simp, fun p hp q hq => ?_⟩
    rw [List.mem_singleton] at hq
    subst hq
    exact h.top p hp hi
  top q hq _ := by
    rw [List.getElem_append_left hi]
    rw [List.mem_append, List.mem_singleton] at hq
    rcases hq with hq | rfl
    · exact h.top q hq hi
    · exact Int.le_refl _
theorem addT_grow (s : Int) : ∀ (l : List Cu) (T : List (Cu × Int)), ∃ R, addT s l T = T ++ R
  | [], T => ⟨[], by simp [addT]⟩
  | d :: l, T => by
    unfold addT
    split
    · exact addT_grow s l T
    · obtain ⟨R, hR⟩ := addT_grow s l (T ++ [(d, s)])
      exact ⟨(d, s) :: R, by rw [hR]; simp⟩
theorem Srch.adds {m : Cu} {i : Nat} : ∀ (l : List Cu) {T : List (Cu × Int)} (_ : Srch m i T) (hi : i < T.length) (_ : ∀ d ∈ l, d ∈ (alC T[i].1).1), Srch m i (addT (T[i].2 + 1) l T) ∧ ∀ d ∈ l, ∃ q ∈ addT (T[i].2 + 1) l T, q.1 = d ∧ q.2 ≤ T[i].2 + 1
  | [], T, h, _, _ => ⟨h, by simp⟩
  | d :: l, T, h, hi, hl => by
    unfold addT
    have hl2 : ∀ x ∈ l, x ∈ (alC T[i].1).1 := fun x hx => hl x (List.mem_cons_of_mem _ hx)
    split
    · rename_i hd
      obtain ⟨h1, h2⟩ := Srch.adds l h hi hl2
      refine ⟨h1, fun x hx => ?_⟩
      rcases List.mem_cons.1 hx with rfl | hx
      · obtain ⟨q, hq, rfl⟩ := List.mem_map.1 hd
        obtain ⟨R, hR⟩ := addT_grow (T[i].2 + 1) l T
        exact ⟨q, by rw [hR]; exact List.mem_append_left _ hq, rfl, h.top q hq hi⟩
      · exact h2 x hx
    · rename_i hd
      have hm := h.more hi (hl d List.mem_cons_self) hd
      have hi2 : i < (T ++ [(d, T[i].2 + 1)]).length := by rw [List.length_append]; omega
      have he : (T ++ [(d, T[i].2 + 1)])[i] = T[i] := List.getElem_append_left hi
      obtain ⟨h1, h2⟩ := Srch.adds l hm hi2 (by rw [he]; exact hl2)
      rw [he] at h1 h2
      refine ⟨h1, fun x hx => ?_⟩
      rcases List.mem_cons.1 hx with rfl | hx
      · obtain ⟨R, hR⟩ := addT_grow (T[i].2 + 1) l (T ++ [(x, T[i].2 + 1)])
        exact ⟨(x, T[i].2 + 1), by rw [hR]; simp, rfl, Int.le_refl _⟩
      · exact h2 x hx
theorem Srch.next {m : Cu} {i : Nat} {T : List (Cu × Int)} (h : Srch m i T) (hi : i < T.length) (ho : (alC T[i].1).2 = true) : Srch m (i + 1) (addT (T[i].2 + 1) (alC T[i].1).1 T) := by
  obtain ⟨h1, h2⟩ := Srch.adds _ h hi (fun _ h => h)
  obtain ⟨R, hR⟩ := addT_grow (T[i].2 + 1) (alC T[i].1).1 T
  have he : ∀ j (hj : j < T.length) (hj2 : j < (addT (T[i].2 + 1) (alC T[i].1).1 T).length), (addT (T[i].2 + 1) (alC T[i].1).1 T)[j] = T[j] := by
    intro j hj hj2
    have h9 : (addT (T[i].2 + 1) (alC T[i].1).1 T)[j]? = T[j]? := by rw [hR, List.getElem?_append_left hj]
    rw [List.getElem?_eq_getElem hj2, List.getElem?_eq_getElem hj] at h9
    exact Option.some.inj h9
  refine ⟨h1.nod, h1.hd, h1.gd, h1.par, fun j hj hji => ?_, h1.mono, fun q hq hi2 => ?_⟩
  · rcases Nat.lt_or_ge j i with h3 | h3
    · exact h1.don j hj h3
    · obtain rfl : j = i := by omega
      rw [he j hi hj]
      exact ⟨ho, h2⟩
  · have hi3 : i < (addT (T[i].2 + 1) (alC T[i].1).1 T).length := by omega
    have h3 := h1.top q hq hi3
    have h4 := List.pairwise_iff_getElem.1 h1.mono i (i + 1) hi3 hi2 (by omega)
    omega
/-- What the search has found. -/
structure Cls (m : Cu) (T : List (Cu × Int)) : Prop where
  nod : (T.map Prod.fst).Nodup
  hd : T[0]? = some (m, 0)
  gd : ∀ q ∈ T, gdC q.1 ∧ 0 ≤ q.2
  par : ∀ k (h : k < T.length), 0 < k → ∃ j, ∃ hj : j < k, T[k].1 ∈ (alC (T[j]'(Nat.lt_trans hj h)).1).1 ∧ T[k].2 = (T[j]'(Nat.lt_trans hj h)).2 + 1
  don : ∀ p ∈ T, (alC p.1).2 = true ∧ ∀ y ∈ (alC p.1).1, ∃ q ∈ T, q.1 = y ∧ q.2 ≤ p.2 + 1
  len : T.length ≤ 8
theorem bfs_cls {m : Cu} : ∀ (f i : Nat) (T T' : List (Cu × Int)), Srch m i T → T.length ≤ 8 → bfs f i T = some T' → Cls m T'
  | 0, i, T, T', h, hl, e => by cases e
  | f + 1, i, T, T', h, hl, e => by
    rcases Nat.lt_or_ge i T.length with hi | hi
    · cases ho : (alC T[i].1).2
      · rw [bfs_bad hi ho] at e; cases e
      · rcases Nat.lt_or_ge 8 (addT (T[i].2 + 1) (alC T[i].1).1 T).length with h8 | h8
        · rw [bfs_long hi h8] at e; cases e
        · rw [bfs_step hi ho h8] at e
          exact bfs_cls f (i + 1) _ T' (h.next hi ho) h8 e
    · rw [bfs_end hi] at e
      cases e
      refine ⟨h.nod, h.hd, h.gd, h.par, fun p hp => ?_, hl⟩
      obtain ⟨j, hj, rfl⟩ := List.getElem_of_mem hp
      exact h.don j hj (by omega)
theorem cls_of {a b : Int} (h : curveB a b = true) {T : List (Cu × Int)} (e : clsV a b = some T) : Cls (smC a b) T :=
  bfs_cls 9 0 _ T (Srch.start (gdC_sm h)) (by simp) e

/-! ### Paths -/
def pth : Nat → Cu → Cu → Prop
  | 0, x, y => x = y
  | n + 1, x, y => ∃ z, pth n x z ∧ y ∈ (alC z).1
theorem pth_cons {x z : Cu} (hz : z ∈ (alC x).1) : ∀ (n : Nat) (y : Cu), pth n z y → pth (n + 1) x y
  | 0, y, h => by cases h; exact ⟨x, rfl, hz⟩
  | n + 1, y, ⟨u, h1, h2⟩ => ⟨u, pth_cons hz n u h1, h2⟩
section
variable {m : Cu} {T : List (Cu × Int)}
theorem Cls.fst (h : Cls m T) : (m, 0) ∈ T := by
  have := h.hd
  rw [List.getElem?_eq_some_iff] at this
  obtain ⟨h0, h1⟩ := this
  rw [← h1]; exact List.getElem_mem h0
/-- A path to each, as long as its steps tell. -/
theorem Cls.to (h : Cls m T) : ∀ (k : Nat) (hk : k < T.length), pth T[k].2.toNat m T[k].1 := by
  intro k
  induction k using Nat.strongRecOn with
  | ind k ih =>
    intro hk
    rcases Nat.eq_zero_or_pos k with rfl | h0
    · have := h.hd
      rw [List.getElem?_eq_getElem hk] at this
      rw [Option.some.inj this]
      rfl
    · obtain ⟨j, hj, h1, h2⟩ := h.par k hk h0
      have h3 := ih j hj (by omega)
      have h4 := (h.gd _ (List.getElem_mem (show j < T.length by omega))).2
      rw [h2, show (T[j].2 + 1).toNat = T[j].2.toNat + 1 by omega]
      exact ⟨_, h3, h1⟩
theorem Cls.le (h : Cls m T) : ∀ (k : Nat) (hk : k < T.length), T[k].2 ≤ k := by
  intro k
  induction k using Nat.strongRecOn with
  | ind k ih =>
    intro hk
    rcases Nat.eq_zero_or_pos k with rfl | h0
    · have := h.hd
      rw [List.getElem?_eq_getElem hk] at this
      rw [Option.some.inj this]
      exact Int.le_refl _
    · obtain ⟨j, hj, h1, h2⟩ := h.par k hk h0
      have h3 := ih j hj (by omega)
      omega
/-- No path is shorter. -/
theorem Cls.short (h : Cls m T) : ∀ (n : Nat) (y : Cu), pth n m y → ∃ q ∈ T, q.1 = y ∧ q.2 ≤ n
  | 0, y, e => by cases e; exact ⟨(m, 0), h.fst, rfl, Int.le_refl _⟩
  | n + 1, y, ⟨z, h1, h2⟩ => by
    obtain ⟨q, hq, rfl, h3⟩ := h.short n z h1
    obtain ⟨r, hr, h4, h5⟩ := (h.don q hq).2 y h2
    exact ⟨r, hr, h4, by omega⟩
theorem Cls.closed (h : Cls m T) {x y : Cu} (hx : x ∈ T.map Prod.fst) (hy : y ∈ (alC x).1) : y ∈ T.map Prod.fst := by
  obtain ⟨q, hq, rfl⟩ := List.mem_map.1 hx
  obtain ⟨r, hr, h4, -⟩ := (h.don q hq).2 y hy
  exact List.mem_map.2 ⟨r, hr, h4⟩
theorem Cls.okx (h : Cls m T) {x : Cu} (hx : x ∈ T.map Prod.fst) : (alC x).2 = true ∧ gdC x := by
  obtain ⟨q, hq, rfl⟩ := List.mem_map.1 hx
  exact ⟨(h.don q hq).1, (h.gd q hq).1⟩
theorem Cls.sym (h : Cls m T) {x y : Cu} (hx : x ∈ T.map Prod.fst) (hy : y ∈ (alC x).1) : x ∈ (alC y).1 :=
  nb_sym (h.okx hx).2 hy (h.okx (h.closed hx hy)).1
theorem Cls.pclosed (h : Cls m T) {x : Cu} (hx : x ∈ T.map Prod.fst) : ∀ (n : Nat) (y : Cu), pth n x y → y ∈ T.map Prod.fst
  | 0, y, e => by cases e; exact hx
  | n + 1, y, ⟨z, h1, h2⟩ => h.closed (h.pclosed hx n z h1) h2
theorem Cls.psym (h : Cls m T) {x : Cu} (hx : x ∈ T.map Prod.fst) : ∀ (n : Nat) (y : Cu), pth n x y → pth n y x
  | 0, y, e => by cases e; rfl
  | n + 1, y, ⟨z, h1, h2⟩ => pth_cons (h.sym (h.pclosed hx n z h1) h2) n x (h.psym hx n z h1)
end

/-! ### The search from another curve of the class -/
theorem bfs_ok {m d : Cu} {T : List (Cu × Int)} (h : Cls m T) : ∀ (f i : Nat) (U : List (Cu × Int)), Srch d i U → (∀ x ∈ U.map Prod.fst, x ∈ T.map Prod.fst) → 9 ≤ f + i → i ≤ 8 → ∃ U', bfs f i U = some U'
  | 0, i, U, _, _, h9, h8 => by omega
  | f + 1, i, U, hs, hin, h9, h8 => by
    rcases Nat.lt_or_ge i U.length with hi | hi
    · have hx : U[i].1 ∈ T.map Prod.fst := hin _ (List.mem_map.2 ⟨_, List.getElem_mem hi, rfl⟩)
      have ho := (h.okx hx).1
      have hnext := hs.next hi ho
      have hin2 : ∀ x ∈ (addT (U[i].2 + 1) (alC U[i].1).1 U).map Prod.fst, x ∈ T.map Prod.fst := by
        have key : ∀ (s : Int) (l : List Cu) (V : List (Cu × Int)), (∀ x ∈ l, x ∈ T.map Prod.fst) → (∀ x ∈ V.map Prod.fst, x ∈ T.map Prod.fst) → ∀ x ∈ (addT s l V).map Prod.fst, x ∈ T.map Prod.fst := by
          intro s l
          induction l with
          | nil => intro V _ hv; exact hv
          | cons c l ih =>
            intro V hl hv
            unfold addT
            split
            · exact ih V (fun x hx => hl x (List.mem_cons_of_mem _ hx)) hv
            · refine ih _ (fun x hx => hl x (List.mem_cons_of_mem _ hx)) (fun x hx => ?_)
              rw [List.map_append, List.mem_append] at hx
              rcases hx with hx | hx
              · exact hv x hx
              · simp only [List.map_cons, List.map_nil, List.mem_singleton] at hx
                subst hx
                exact hl x List.mem_cons_self
        exact key _ _ _ (fun x hx2 => h.closed hx hx2) hin
      have h8' : (addT (U[i].2 + 1) (alC U[i].1).1 U).length ≤ 8 := by
        have h1 := List.Nodup.length_le_of_subset hnext.nod (fun x hx => hin2 x hx)
        rw [List.length_map, List.length_map] at h1
        exact Nat.le_trans h1 h.len
      rw [bfs_step hi ho h8']
      obtain ⟨R, hR⟩ := addT_grow (U[i].2 + 1) (alC U[i].1).1 U
      rcases Nat.lt_or_ge i 8 with h7 | h7
      · exact bfs_ok h f (i + 1) _ hnext hin2 (by omega) (by omega)
      · rw [hR, List.length_append] at h8'
        omega
    · exact ⟨U, bfs_end hi⟩
theorem cls_other {m d : Cu} {T : List (Cu × Int)} (h : Cls m T) (hd : d ∈ T.map Prod.fst) : ∃ U, clsV d.a d.b = some U ∧ Cls d U ∧ (∀ x, x ∈ U.map Prod.fst ↔ x ∈ T.map Prod.fst) := by
  have hg := (h.okx hd).2
  have hs := gdC_self hg
  obtain ⟨U, hU⟩ := bfs_ok h 9 0 [(d, 0)] (Srch.start hg) (by intro x hx; simp only [List.map_cons, List.map_nil, List.mem_singleton] at hx; subst hx; exact hd) (by omega) (by omega)
  have e : clsV d.a d.b = some U := by unfold clsV; rw [hs]; exact hU
  have hc : Cls d U := by have := cls_of hg.1 e; rw [hs] at this; exact this
  refine ⟨U, e, hc, fun x => ⟨fun hx => ?_, fun hx => ?_⟩⟩
  · obtain ⟨q, hq, rfl⟩ := List.mem_map.1 hx
    obtain ⟨k, hk, rfl⟩ := List.getElem_of_mem hq
    exact h.pclosed hd _ _ (hc.to k hk)
  · have hm : m ∈ U.map Prod.fst := by
      obtain ⟨q, hq, h2⟩ := List.mem_map.1 hd
      obtain ⟨k, hk, rfl⟩ := List.getElem_of_mem hq
      have h3 := h.to k hk
      rw [h2] at h3
      have h4 := h.psym (List.mem_map.2 ⟨_, h.fst, rfl⟩) _ _ h3
      obtain ⟨r, hr, h5, -⟩ := hc.short _ _ h4
      exact List.mem_map.2 ⟨r, hr, h5⟩
    obtain ⟨q, hq, h2⟩ := List.mem_map.1 hx
    obtain ⟨k, hk, rfl⟩ := List.getElem_of_mem hq
    have h3 := h.to k hk
    rw [h2] at h3
    exact hc.pclosed hm _ _ h3
/-- The steps there and back are as many. -/
theorem steps_sym {m d : Cu} {T U : List (Cu × Int)} (h : Cls m T) (k : Cls d U) {p q : Cu × Int} (hp : p ∈ T) (hp1 : p.1 = d) (hq : q ∈ U) (hq1 : q.1 = m) : p.2 = q.2 := by
  have hpg := (h.gd p hp).2
  have hqg := (k.gd q hq).2
  have uniq : ∀ {x : Cu} {V : List (Cu × Int)}, Cls x V → ∀ {r s : Cu × Int}, r ∈ V → s ∈ V → r.1 = s.1 → r = s := by
    intro x V hv r s hr hs e
    obtain ⟨i, hi, rfl⟩ := List.getElem_of_mem hr
    obtain ⟨j, hj, rfl⟩ := List.getElem_of_mem hs
    have hn := hv.nod
    rw [List.nodup_iff_pairwise_ne, List.pairwise_iff_getElem] at hn
    rcases Nat.lt_trichotomy i j with h1 | h1 | h1
    · exact absurd (by rw [List.getElem_map, List.getElem_map]; exact e) (hn i j (by simpa using hi) (by simpa using hj) h1)
    · subst h1; rfl
    · exact absurd (by rw [List.getElem_map, List.getElem_map]; exact e.symm) (hn j i (by simpa using hj) (by simpa using hi) h1)
  have a1 : p.2 ≤ q.2 := by
    obtain ⟨j, hj, rfl⟩ := List.getElem_of_mem hq
    have h1 := k.to j hj
    rw [hq1] at h1
    have h2 := k.psym (List.mem_map.2 ⟨_, k.fst, rfl⟩) _ _ h1
    obtain ⟨r, hr, h3, h4⟩ := h.short _ _ h2
    have := uniq h hr hp (h3.trans hp1.symm)
    subst this
    omega
  have a2 : q.2 ≤ p.2 := by
    obtain ⟨j, hj, rfl⟩ := List.getElem_of_mem hp
    have h1 := h.to j hj
    rw [hp1] at h1
    have h2 := h.psym (List.mem_map.2 ⟨_, h.fst, rfl⟩) _ _ h1
    obtain ⟨r, hr, h3, h4⟩ := k.short _ _ h2
    have := uniq k hr hq (h3.trans hq1.symm)
    subst this
    omega
  omega

/-! ### The edges -/
theorem srt_idx {C : List Cu} (hs : C.Pairwise ltC) {i j : Nat} (hi : i < C.length) (hj : j < C.length) (e : C[i] = C[j]) : i = j := by
  rw [List.pairwise_iff_getElem] at hs
  rcases Nat.lt_trichotomy i j with h | h | h
  · have := hs i j hi hj h; rw [e] at this; exact absurd this (ltC_irr _)
  · exact h
  · have := hs j i hj hi h; rw [e] at this; exact absurd this (ltC_irr _)
theorem getC_at {C : List Cu} {k : Nat} (h : k < C.length) : cuS.get C k = C[k] := by
  unfold Shape.get; rw [List.getD_eq_getElem?_getD, List.getElem?_eq_getElem h]; rfl
theorem edAt_mem {L : List Cu} {i k n : Nat} (h : i < k) (hk : k < n) (hm : cuS.get L k ∈ (alC (cuS.get L i)).1) : [(i : Int), (k : Int)] ∈ edAt L i n := by
  unfold edAt
  rw [List.mem_map]
  refine ⟨k, ?_, rfl⟩
  rw [List.mem_filter]
  exact ⟨List.mem_range.2 hk, by rw [decide_eq_true h, decide_eq_true hm]; rfl⟩
theorem edTo_mem {L : List Cu} {i k : Nat} (h : i < k) (hk : k < L.length) (hm : cuS.get L k ∈ (alC (cuS.get L i)).1) : [(i : Int), (k : Int)] ∈ edTo L L.length := by
  unfold edTo
  rw [List.mem_flatMap]
  exact ⟨i, List.mem_range.2 (by omega), edAt_mem h hk hm⟩
theorem edTo_of {L : List Cu} {x : List Int} {n : Nat} (h : x ∈ edTo L n) : ∃ i k : Nat, x = [(i : Int), (k : Int)] ∧ i < k ∧ k < L.length ∧ cuS.get L k ∈ (alC (cuS.get L i)).1 := by
  unfold edTo edAt at h
  rw [List.mem_flatMap] at h
  obtain ⟨i, hi, h⟩ := h
  rw [List.mem_map] at h
  obtain ⟨k, hk, rfl⟩ := h
  rw [List.mem_filter] at hk
  simp only [Bool.and_eq_true, decide_eq_true_eq, List.mem_range] at hk
  exact ⟨i, k, rfl, hk.2.1, hk.1, hk.2.2⟩
section
variable {m : Cu} {T : List (Cu × Int)}
def srt (T : List (Cu × Int)) : List Cu := setC (T.map Prod.fst)
theorem srt_mem (x : Cu) : x ∈ srt T ↔ x ∈ T.map Prod.fst := setC_mem x _
theorem srt_srt (T : List (Cu × Int)) : (srt T).Pairwise ltC := setC_srt _
theorem srt_len (h : Cls m T) : (srt T).length = T.length := by
  have h1 : (srt T).length ≤ T.length := by have := setC_len (T.map Prod.fst); rwa [List.length_map] at this
  have h2 := List.Nodup.length_le_of_subset h.nod (fun x hx => (srt_mem (T := T) x).2 hx)
  rw [List.length_map] at h2
  omega
theorem Cls.idx (_ : Cls m T) {x : Cu} (hx : x ∈ T.map Prod.fst) : ∃ i, i < (srt T).length ∧ cuS.get (srt T) i = x := by
  obtain ⟨i, hi, he⟩ := List.getElem_of_mem ((srt_mem x).2 hx)
  exact ⟨i, hi, by rw [getC_at hi]; exact he⟩
/-- An edge for each curve but the first. -/
theorem Cls.tree (h : Cls m T) : ∀ t, 1 ≤ t → t ≤ T.length → ∃ E : List (List Int), E.Nodup ∧ E.length = t - 1 ∧ (∀ e ∈ E, e ∈ edTo (srt T) (srt T).length) ∧
    (∀ e ∈ E, ∃ i k : Nat, e = [(i : Int), (k : Int)] ∧ (∃ j, ∃ hj : j < T.length, j < t ∧ cuS.get (srt T) i = T[j].1) ∧ (∃ j, ∃ hj : j < T.length, j < t ∧ cuS.get (srt T) k = T[j].1))
  | 0, h1, _ => by omega
  | 1, _, _ => ⟨[], by simp, rfl, by simp, by simp⟩
  | t + 2, _, h2 => by
    obtain ⟨E, e1, e2, e3, e4⟩ := h.tree (t + 1) (by omega) (by omega)
    have ht : t + 1 < T.length := by omega
    obtain ⟨j, hj, p1, -⟩ := h.par (t + 1) ht (by omega)
    have hjT : j < T.length := by omega
    have mt : T[t + 1].1 ∈ T.map Prod.fst := List.mem_map.2 ⟨_, List.getElem_mem ht, rfl⟩
    have mj : T[j].1 ∈ T.map Prod.fst := List.mem_map.2 ⟨_, List.getElem_mem hjT, rfl⟩
    obtain ⟨a, ha, ga⟩ := h.idx mt
    obtain ⟨b, hb, gb⟩ := h.idx mj
    have hnod := h.nod
    rw [List.nodup_iff_pairwise_ne, List.pairwise_iff_getElem] at hnod
    have hne : ∀ k (hk : k < T.length), k < t + 1 → T[k].1 ≠ T[t + 1].1 := fun k hk hlt e => hnod k (t + 1) (by simpa using hk) (by simpa using ht) hlt (by simpa using e)
    have hab : a ≠ b := fun e => hne j hjT hj (by rw [← ga, ← gb, e])
    have new : ∀ i k : Nat, [(i : Int), (k : Int)] ∈ E → i ≠ a ∧ k ≠ a := by
      intro i k hik
      obtain ⟨i', k', e, ⟨x, hx, hxt, gx⟩, ⟨y, hy, hyt, gy⟩⟩ := e4 _ hik
      simp only [List.cons.injEq, and_true] at e
      obtain ⟨e5, e6⟩ := e
      have e5 : i = i' := by omega
      have e6 : k = k' := by omega
      subst e5; subst e6
      exact ⟨fun e => hne x hx hxt (by rw [← ga, ← gx, e]), fun e => hne y hy hyt (by rw [← ga, ← gy, e])⟩
    have old : ∀ e ∈ E, ∃ i k : Nat, e = [(i : Int), (k : Int)] ∧ (∃ j, ∃ hj : j < T.length, j < t + 2 ∧ cuS.get (srt T) i = T[j].1) ∧ (∃ j, ∃ hj : j < T.length, j < t + 2 ∧ cuS.get (srt T) k = T[j].1) := by
      intro e he
      obtain ⟨i, k, e5, ⟨x, hx, hxt, gx⟩, ⟨y, hy, hyt, gy⟩⟩ := e4 e he
      exact ⟨i, k, e5, ⟨x, hx, by omega, gx⟩, ⟨y, hy, by omega, gy⟩⟩
    rcases Nat.lt_or_ge a b with hlt | hge
    · refine ⟨[(a : Int), (b : Int)] :: E, ?_, by simp; omega, ?_, ?_⟩
      · rw [List.nodup_cons]; exact ⟨fun he => (new a b he).1 rfl, e1⟩
      · intro e he
        rcases List.mem_cons.1 he with rfl | he
        · refine edTo_mem hlt hb ?_
          rw [ga, gb]; exact h.sym mj p1
        · exact e3 e he
      · intro e he
        rcases List.mem_cons.1 he with rfl | he
        · exact ⟨a, b, rfl, ⟨t + 1, ht, by omega, ga⟩, ⟨j, hjT, by omega, gb⟩⟩
        · exact old e he
    · refine ⟨[(b : Int), (a : Int)] :: E, ?_, by simp; omega, ?_, ?_⟩
      · rw [List.nodup_cons]; exact ⟨fun he => (new b a he).2 rfl, e1⟩
      · intro e he
        rcases List.mem_cons.1 he with rfl | he
        · refine edTo_mem (by omega) ha ?_
          rw [ga, gb]; exact p1
        · exact e3 e he
      · intro e he
        rcases List.mem_cons.1 he with rfl | he
        · exact ⟨b, a, rfl, ⟨j, hjT, by omega, gb⟩, ⟨t + 1, ht, by omega, ga⟩⟩
        · exact old e he
theorem Cls.edges (h : Cls m T) : T.length - 1 ≤ (edTo (srt T) (srt T).length).length := by
  have h1 : 0 < T.length := by have := h.fst; exact List.length_pos_of_mem this
  obtain ⟨E, e1, e2, e3, -⟩ := h.tree T.length h1 (Nat.le_refl _)
  have := List.Nodup.length_le_of_subset e1 (fun x hx => e3 x hx)
  omega
theorem Cls.edgesV (h : Cls m T) : edgesV (srt T) = (edTo (srt T) (srt T).length, true) := by
  unfold Proofs.Ytnhgdmhiblpknaa.edgesV
  have hb : edB (srt T) = true := by
    unfold edB
    simp only [Bool.and_eq_true, decide_eq_true_eq, List.all_eq_true, List.mem_range]
    refine ⟨by rw [srt_len h]; exact h.len, fun k hk => ?_, fun k hk => ?_⟩
    · have hx : cuS.get (srt T) k ∈ T.map Prod.fst := by rw [← srt_mem, getC_at hk]; exact List.getElem_mem hk
      have hg := (h.okx hx).2
      unfold edOk
      rw [hg.1, decide_eq_true (gdC_one hg), Bool.and_true, Bool.true_and]
      rcases Nat.eq_zero_or_pos k with rfl | h0
      · rfl
      · have := List.pairwise_iff_getElem.1 (srt_srt T) (k - 1) k (by omega) hk (by omega)
        rw [← getC_at, ← getC_at] at this
        rw [decide_eq_true this, Bool.or_true]
    · have hx : cuS.get (srt T) k ∈ T.map Prod.fst := by rw [← srt_mem, getC_at hk]; exact List.getElem_mem hk
      exact (h.okx hx).1
  rw [hb]; rfl
end
end Go.Proofs.Ytnhgdmhiblpknaa
