/- Own texts put together: A region that draws its order and makes memory: what each operation's value is known to be, whatever the order; The program's value of a quartic modulo a number: the walk. Conditions: those of each theorem. -/
import Derived.Test.YthdfpfhkmfmnbaaGreatRcM1
import Derived.BigRegion
import Derived.Test.YthdfpfhkmfmnbaaGreatRcM7
namespace Go.Proofs.YthdfpfhkmfmnbaaGreat
section
open Go Go.RowKit

/-- What one operation owes: its operands read by e. -/
def FlowAt (P : Program) (o : Oper) (e : Operand → Value) (w : World) (Post : Value → World → Prop) : Prop :=
  match (execOp e o).run P w with
  | .ok (.value v) w' => Post v w'
  | .ok .skip w' => Post undef w'
  | .ok (.enter f args) w' => Calls P f args w' fun x w'' => ∃ v, x = .returned v ∧ Post v w''
  | _ => False
theorem FlowAt.wp {P : Program} {o : Oper} {a : Act} {w : World} {Post : Value → World → Prop} {K : Act → World → Prop} {Q : Exit → Act → World → Prop}
    (h : FlowAt P o a.eval w Post) (hk : ∀ v w', Post v w' → K (a.put o.dst v) w') : o.wp P a w K Q := by
  unfold FlowAt at h
  unfold Oper.wp
  generalize (execOp a.eval o).run P w = r at *
  cases r with
  | ok n w' =>
    cases n <;> dsimp only at h <;> simp only [Oper.upon]
    · exact hk _ _ h
    · exact hk _ _ h
    all_goals first
      | exact h.elim
      | exact Calls.mono h (fun e w'' he => by obtain ⟨v, rfl, hp⟩ := he; exact hk _ _ hp)
  | halt x w' => exact h.elim

/-- The region is plain: no guards, each operation has a slot of its own below n, edges lead back. -/
def flowB (l : List Oper) (n : Nat) : Bool :=
  l.zipIdx.all fun x => x.1.guard.isNone && (match x.1.dst with | some t => decide (t < n) | none => false) && x.1.after.all (fun e => decide (e.on < x.2)) && (l.take x.2).all (fun o => o.dst != x.1.dst)
structure FlowOk (l : List Oper) (n : Nat) : Prop where
  guard : ∀ (i : Nat) (o : Oper), l[i]? = some o → o.guard = none
  dst : ∀ (i : Nat) (o : Oper), l[i]? = some o → ∃ t, o.dst = some t ∧ t < n
  back : ∀ (i : Nat) (o : Oper), l[i]? = some o → ∀ e ∈ o.after, e.on < i
  one : ∀ (i j : Nat) (o o' : Oper), l[i]? = some o → l[j]? = some o' → i < j → o.dst ≠ o'.dst
theorem flow_ok {l : List Oper} {n : Nat} (h : flowB l n = true) : FlowOk l n := by
  have key : ∀ (i : Nat) (o : Oper), l[i]? = some o → (o.guard.isNone = true ∧ (match o.dst with | some t => decide (t < n) | none => false) = true) ∧ o.after.all (fun e => decide (e.on < i)) = true ∧ (l.take i).all (fun o' => o'.dst != o.dst) = true := by
    intro i o hi
    have h1 := List.all_eq_true.1 h (o, i) (List.mem_zipIdx_iff_getElem?.2 hi)
    simp only [Bool.and_eq_true] at h1
    exact ⟨⟨h1.1.1.1, h1.1.1.2⟩, h1.1.2, h1.2⟩
  refine ⟨fun i o hi => Option.isNone_iff_eq_none.1 (key i o hi).1.1, fun i o hi => ?_, fun i o hi e he => ?_, fun i j o o' hi hj hij => ?_⟩
  · have h2 := (key i o hi).1.2
    cases hd : o.dst with
    | none => rw [hd] at h2; exact absurd h2 (by simp)
    | some t => rw [hd] at h2; exact ⟨t, rfl, by simpa using h2⟩
  · have h2 := (key i o hi).2.1
    rw [Array.all_eq_true_iff_forall_mem] at h2
    simpa using h2 e he
  · have h2 := List.all_eq_true.1 (key j o' hj).2.2 o (List.mem_of_getElem? (i := i) (by rw [List.getElem?_take_of_lt hij]; exact hi))
    simpa using h2

def putsF : List Oper → Nat → (Nat → Value) → Array Value → Array Value
  | [], _, _, T => T
  | o :: l, i, f, T => putsF l (i + 1) f (match o.dst with | some d => T.setIfInBounds d (f i) | none => T)
theorem size_putsF : ∀ (l : List Oper) (i : Nat) (f : Nat → Value) (T : Array Value), (putsF l i f T).size = T.size
  | [], _, _, _ => rfl
  | o :: l, i, f, T => by
    unfold putsF
    rw [size_putsF l]
    split <;> simp
theorem putsF_no : ∀ (l : List Oper) (i : Nat) (f : Nat → Value) (T : Array Value) (t : Nat), (∀ (j : Nat) (o : Oper), l[j]? = some o → o.dst ≠ some t) → (putsF l i f T)[t]? = T[t]?
  | [], _, _, _, _, _ => rfl
  | o :: l, i, f, T, t, h => by
    unfold putsF
    rw [putsF_no l _ _ _ t (fun j o' hj => h (j + 1) o' (by simpa using hj))]
    have h0 := h 0 o rfl
    cases hd : o.dst with
    | none => rfl
    | some d =>
      have : d ≠ t := fun e => h0 (by rw [hd, e])
      simp [this]
theorem putsF_yes : ∀ (l : List Oper) (i : Nat) (f : Nat → Value) (T : Array Value) (t j : Nat) (o : Oper), l[j]? = some o → o.dst = some t → t < T.size → (∀ (k : Nat) (o' : Oper), l[k]? = some o' → j < k → o'.dst ≠ some t) →
    (putsF l i f T)[t]? = some (f (i + j))
  | [], _, _, _, _, _, _, h, _, _, _ => by simp at h
  | o :: l, i, f, T, t, 0, o', h, hd, ht, hn => by
    obtain rfl : o = o' := by simpa using h
    unfold putsF
    rw [putsF_no l _ _ _ t (fun j o' hj => hn (j + 1) o' (by simpa using hj) (by omega)), hd]
    simp [ht]
  | o :: l, i, f, T, t, j + 1, o', h, hd, ht, hn => by
    unfold putsF
    rw [putsF_yes l (i + 1) f _ t j o' (by simpa using h) hd (by split <;> simpa using ht) (fun k o2 hk hjk => hn (k + 1) o2 (by simpa using hk) (by omega))]
    congr 2; omega

/-- How things stand in the midst of the region. -/
structure FlowInv (l : List Oper) (R : Nat → Value → World → Prop) (S : World → Prop) (a0 : Act) (listed : Array Bool) (a : Act) (w : World) : Prop where
  sz : listed.size = l.length
  s : S w
  df : a.defers = a0.defers
  ts : a.tmps.size = a0.tmps.size
  old : ∀ t : Nat, (∀ (i : Nat) (o : Oper), l[i]? = some o → o.dst ≠ some t) → a.tmps[t]? = a0.tmps[t]?
  got : ∀ (i : Nat) (o : Oper) (t : Nat), l[i]? = some o → listed[i]? = some true → o.dst = some t → R i (a.tmps.getD t undef) w

/-- What operation i owes. -/
def FlowOp (P : Program) (l : List Oper) (R : Nat → Value → World → Prop) (S : World → Prop) (a0 : Act) (i : Nat) (o : Oper) : Prop :=
  ∀ (e : Operand → Value) (w : World), S w → (∀ t : Nat, (∀ (j : Nat) (o' : Oper), l[j]? = some o' → o'.dst ≠ some t) → e (.tmp t) = a0.eval (.tmp t)) → (∀ c, e (.const c) = c) → (∀ f, e (.func f) = .func (.func f) #[] #[]) →
    (∀ d ∈ o.after, Region.binds .any d = true → ∀ (o' : Oper) (t : Nat), l[d.on]? = some o' → o'.dst = some t → R d.on (e (.tmp t)) w) →
    FlowAt P o e w (fun v w' => S w' ∧ R i v w' ∧ ∀ j u, R j u w → R j u w')

theorem unlisted_of_ready {md : Region.Mode} {ops : Array Oper} {listed : Array Bool} {i : Nat} (h : i ∈ Region.ready md ops listed) : listed[i]? = some false ∧ i < ops.size := by
  unfold Region.ready at h
  rw [List.mem_filter, List.mem_range] at h
  obtain ⟨h1, h2⟩ := h
  rw [Bool.and_eq_true] at h2
  have h3 := h2.1
  refine ⟨?_, h1⟩
  rw [Array.getD_eq_getD_getElem?] at h3
  cases hl : listed[i]? with
  | none => rw [hl] at h3; simp at h3
  | some b => rw [hl] at h3; simpa using h3
theorem after_of_ready {md : Region.Mode} {ops : Array Oper} {listed : Array Bool} {i : Nat} {o : Oper} (ho : ops[i]? = some o) (h : i ∈ Region.ready md ops listed) : ∀ e ∈ o.after, Region.binds md e = true → listed[e.on]? = some true := by
  unfold Region.ready at h
  rw [List.mem_filter] at h
  have h2 := h.2
  rw [Bool.and_eq_true, ho, Option.map_some, Option.getD_some, Array.all_eq_true_iff_forall_mem] at h2
  intro e he hb
  have h3 := h2.2 e he
  rw [hb, Array.getD_eq_getD_getElem?] at h3
  cases hl : listed[e.on]? with
  | none => rw [hl] at h3; simp at h3
  | some b => rw [hl] at h3; simpa using h3
theorem ready_of {md : Region.Mode} {ops : Array Oper} {listed : Array Bool} {i : Nat} {o : Oper} (ho : ops[i]? = some o) (hf : listed[i]? = some false) (h : ∀ e ∈ o.after, listed[e.on]? = some true) : i ∈ Region.ready md ops listed := by
  unfold Region.ready
  rw [List.mem_filter, List.mem_range]
  refine ⟨(Array.getElem?_eq_some_iff.1 ho).1, ?_⟩
  rw [Bool.and_eq_true, ho, Option.map_some, Option.getD_some, Array.all_eq_true_iff_forall_mem]
  refine ⟨by rw [Array.getD_eq_getD_getElem?, hf]; rfl, fun e he => ?_⟩
  rw [Array.getD_eq_getD_getElem?, h e he]
  simp

theorem wpAny_flow {P : Program} {l : List Oper} {R : Nat → Value → World → Prop} {S : World → Prop} {a0 : Act} {Q : Exit → Act → World → Prop} (hok : FlowOk l a0.tmps.size)
    (hop : ∀ (i : Nat) (o : Oper), l[i]? = some o → FlowOp P l R S a0 i o)
    (hend : ∀ (f : Nat → Value) (w : World), S w → (∀ i, i < l.length → R i (f i) w) → Q .normal { tmps := putsF l 0 f a0.tmps, defers := a0.defers } w) :
    ∀ (fuel : Nat) (listed : Array Bool) (a : Act) (w : World), listed.toList.count false ≤ fuel → FlowInv l R S a0 listed a w → wpAny P .any l.toArray Q fuel listed a w := by
  have fin : ∀ (listed : Array Bool) (a : Act) (w : World), FlowInv l R S a0 listed a w → Region.ready .any l.toArray listed = [] → Q .normal a w := by
    intro listed a w hI hr
    have all : ∀ i, i < l.length → listed[i]? = some true := by
      intro i
      induction i using Nat.strongRecOn with
      | ind i ih =>
        intro hi
        have hil : i < listed.size := by rw [hI.sz]; exact hi
        have hli : listed[i]? = some listed[i] := Array.getElem?_eq_getElem hil
        cases hb : listed[i] with
        | true => rw [hli, hb]
        | false =>
          have h0 : i ∈ Region.ready .any l.toArray listed := ready_of (o := l[i]) (by simp) (by rw [hli, hb]) (fun e he => ih e.on (hok.back i l[i] (List.getElem?_eq_getElem hi) e he) (by
            have := hok.back i l[i] (List.getElem?_eq_getElem hi) e he; omega))
          rw [hr] at h0; exact absurd h0 (by simp)
    have ea : a = { tmps := putsF l 0 (fun i => match l[i]? with | some o => (match o.dst with | some t => a.tmps.getD t undef | none => undef) | none => undef) a0.tmps, defers := a0.defers } := by
      obtain ⟨T, D⟩ := a
      have hD := hI.df
      dsimp only at hD
      subst hD
      congr 1
      apply Array.ext_getElem?
      intro t
      by_cases hx : ∃ (j : Nat) (o : Oper), l[j]? = some o ∧ o.dst = some t
      · obtain ⟨j, o, hj, hd⟩ := hx
        obtain ⟨t', hd', ht'⟩ := hok.dst j o hj
        obtain rfl : t = t' := by rw [hd] at hd'; simpa using hd'
        rw [putsF_yes l 0 _ a0.tmps t j o hj hd ht' (fun k o' hk hjk e => hok.one j k o o' hj hk hjk (by rw [hd, e]))]
        have hT : t < T.size := by rw [show T.size = a0.tmps.size from hI.ts]; exact ht'
        rw [Nat.zero_add, hj]
        dsimp only
        rw [hd]
        dsimp only
        rw [Array.getD_eq_getD_getElem?, Array.getElem?_eq_getElem hT]
        rfl
      · have hn : ∀ (j : Nat) (o : Oper), l[j]? = some o → o.dst ≠ some t := fun j o hj hd => hx ⟨j, o, hj, hd⟩
        rw [putsF_no l 0 _ a0.tmps t hn]
        exact hI.old t hn
    rw [ea]
    refine hend _ w hI.s (fun i hi => ?_)
    have hg := List.getElem?_eq_getElem hi
    obtain ⟨t, hd, -⟩ := hok.dst i l[i] hg
    have := hI.got i l[i] t hg (all i hi) hd
    rw [hg]
    dsimp only
    rw [hd]
    exact this
  intro fuel
  induction fuel with
  | zero =>
    intro listed a w hc hI
    have h0 : Region.ready .any l.toArray listed = [] := by
      cases hr : Region.ready .any l.toArray listed with
      | nil => rfl
      | cons i r =>
        have h1 := unlisted_of_ready (md := .any) (ops := l.toArray) (i := i) (by rw [hr]; exact List.mem_cons_self ..)
        have h2 : false ∈ listed.toList := List.mem_of_getElem? (i := i) (by simpa using h1.1)
        have h3 := List.count_pos_iff.2 h2
        omega
    exact ⟨h0, fin _ _ _ hI h0⟩
  | succ fuel ih =>
    intro listed a w hc hI
    refine ⟨fun h0 => fin _ _ _ hI h0, fun i hi => ?_⟩
    obtain ⟨hf, hlt⟩ := unlisted_of_ready hi
    have hlt' : i < l.length := by simpa using hlt
    have hg : l[i]? = some l[i] := List.getElem?_eq_getElem hlt'
    have hga : l.toArray[i]? = some l[i] := by simp
    have haf := after_of_ready hga hi
    unfold wpOp
    rw [hga]
    dsimp only
    have hw : Region.wanted l[i] (yielded l.toArray a.tmps) = true := by unfold Region.wanted; rw [hok.guard i _ hg]
    rw [if_pos hw]
    refine .inl (FlowAt.wp (hop i l[i] hg a.eval w hI.s ?_ (fun c => rfl) (fun f => rfl) ?_) ?_)
    · intro t ht
      have := hI.old t ht
      show a.tmps.getD t undef = a0.tmps.getD t undef
      rw [Array.getD_eq_getD_getElem?, Array.getD_eq_getD_getElem?, this]
    · intro d hd hb o' t ho' hdt
      exact hI.got d.on o' t ho' (haf d hd hb) hdt
    · rintro v w' ⟨hS, hR, hK⟩
      obtain ⟨t, hd, htn⟩ := hok.dst i _ hg
      refine ih _ _ _ ?_ ⟨by simpa using hI.sz, hS, ?_, ?_, ?_, ?_⟩
      · have hil : i < listed.size := by rw [hI.sz]; exact hlt'
        have hv : listed.toList[i]? = some false := by simpa using hf
        have hil2 : i < listed.toList.length := by simpa using hil
        have h2 : listed.toList[i] = false := by rw [List.getElem?_eq_getElem hil2] at hv; simpa using hv
        rw [Array.toList_setIfInBounds]
        have h3 := List.count_set (a := true) (b := false) (l := listed.toList) (i := i) hil2
        rw [h2] at h3
        have h4 : 0 < listed.toList.count false := List.count_pos_iff.2 (List.mem_of_getElem? hv)
        rw [if_pos (by rfl), if_neg (by decide)] at h3
        omega
      · rw [hd]; exact hI.df
      · rw [hd]; simpa [Act.put] using hI.ts
      · intro s hs
        rw [hd]
        have : t ≠ s := fun e => hs i _ hg (by rw [hd, e])
        simp only [Act.put]
        rw [Array.getElem?_setIfInBounds_ne this]
        exact hI.old s hs
      · intro j o s hj hlj hds
        by_cases hij : i = j
        · subst hij
          obtain rfl : o = l[i] := by rw [hg] at hj; simpa using hj.symm
          obtain rfl : t = s := by rw [hd] at hds; simpa using hds
          rw [hd]
          simp only [Act.put]
          rw [Array.getD_eq_getD_getElem?, Array.getElem?_setIfInBounds_self_of_lt (by rw [hI.ts]; exact htn)]
          exact hR
        · rw [Array.getElem?_setIfInBounds_ne hij] at hlj
          have h1 := hK j _ (hI.got j o s hj hlj hds)
          have hts : t ≠ s := by
            intro e
            rcases Nat.lt_or_gt_of_ne hij with h | h
            · exact hok.one i j _ o hg hj h (by rw [hd, hds, e])
            · exact hok.one j i o _ hj hg h (by rw [hd, hds, e])
          rw [hd]
          simp only [Act.put]
          rw [Array.getD_eq_getD_getElem?, Array.getElem?_setIfInBounds_ne hts, ← Array.getD_eq_getD_getElem?]
          exact h1

/-- A region that draws its order, operation by operation. -/
theorem wp_region_flow {P : Program} {id : Nat} {Q : Exit → Act → World → Prop} {a : Act} {w : World} {l : List Oper} (R : Nat → Value → World → Prop) (S : World → Prop) (hm : P.follows .mixedOrders = true) (hB : flowB l a.tmps.size = true) (hS : S w.drew)
    (hop : ∀ (i : Nat) (o : Oper), l[i]? = some o → FlowOp P l R S a i o)
    (hend : ∀ (f : Nat → Value) (w : World), S w → (∀ i, i < l.length → R i (f i) w) → Q .normal { tmps := putsF l 0 f a.tmps, defers := a.defers } w) : (Code.region id l.toArray true).wp P Q a w := by
  refine wp_region_any hm (wpAny_flow (flow_ok hB) hop hend _ _ _ _ ?_ ⟨by simp, hS, rfl, rfl, fun _ _ => rfl, fun i o t hi hl _ => ?_⟩)
  · simp
  · rw [Array.getElem?_replicate] at hl
    split at hl <;> simp at hl

/-! ### The use: values that are known, and new rows -/
inductive FR where
  | val (x : Value)
  | row (t : TypeId) (n : Nat) (cs : Array Value)
def FR.holds : FR → Value → World → Prop
  | .val x, v, _ => v = x
  | .row t n cs, v, w => ∃ g, v = .slice (some ⟨g, 0, none⟩) n n ∧ Blk w g t cs
theorem FR.on {r : FR} {v : Value} {w w' : World} (h : r.holds v w) (hb : Below w.heap.size w w') : r.holds v w' := by
  cases r with
  | val x => exact h
  | row t n cs => obtain ⟨g, rfl, hg⟩ := h; exact ⟨g, rfl, hg.on hb⟩
/-- What operation i owes, its operands' slots told by Bools. -/
def FlowOp2 (P : Program) (l : List Oper) (R : List FR) (w0 : World) (a0 : Act) (i : Nat) (o : Oper) : Prop :=
  ∀ (e : Operand → Value) (w : World), Below w0.heap.size w0 w → (∀ t : Nat, (l.all fun o' => o'.dst != some t) = true → e (.tmp t) = a0.eval (.tmp t)) → (∀ c, e (.const c) = c) → (∀ f, e (.func f) = .func (.func f) #[] #[]) →
    (∀ j t : Nat, (o.after.any (fun d => Region.binds .any d && d.on == j) && (l[j]?.bind (·.dst)) == some t) = true → (R.getD j (.val undef)).holds (e (.tmp t)) w) →
    FlowAt P o e w (fun v w' => (R.getD i (.val undef)).holds v w' ∧ Below w.heap.size w w')
def FlowAll (P : Program) (l : List Oper) (R : List FR) (w0 : World) (a0 : Act) : Nat → List Oper → Prop
  | _, [] => True
  | k, o :: m => FlowOp2 P l R w0 a0 k o ∧ FlowAll P l R w0 a0 (k + 1) m
theorem flow_get {P : Program} {l : List Oper} {R : List FR} {w0 : World} {a0 : Act} : ∀ (m : List Oper) (k i : Nat) (o : Oper), FlowAll P l R w0 a0 k m → m[i]? = some o → FlowOp2 P l R w0 a0 (k + i) o
  | [], _, _, _, _, h => by simp at h
  | o :: m, k, 0, o', h, hi => by
    obtain rfl : o = o' := by simpa using hi
    exact h.1
  | o :: m, k, i + 1, o', h, hi => by
    have := flow_get m (k + 1) i o' h.2 (by simpa using hi)
    rwa [show k + 1 + i = k + (i + 1) by omega] at this
theorem wp_region_flow2 {P : Program} {id : Nat} {Q : Exit → Act → World → Prop} {a : Act} {w : World} {l : List Oper} (R : List FR) (hm : P.follows .mixedOrders = true) (hB : flowB l a.tmps.size = true)
    (hop : FlowAll P l R w a 0 l)
    (hend : ∀ (f : Nat → Value) (w' : World), Below w.heap.size w w' → (∀ i, i < l.length → (R.getD i (.val undef)).holds (f i) w') → Q .normal { tmps := putsF l 0 f a.tmps, defers := a.defers } w') : (Code.region id l.toArray true).wp P Q a w := by
  refine wp_region_flow (fun i v w' => (R.getD i (.val undef)).holds v w') (fun w' => Below w.heap.size w w') hm hB (Below.refl _ _).drew (fun i o hi => ?_) hend
  have h0 := flow_get l 0 i o hop hi
  rw [Nat.zero_add] at h0
  intro e w1 hS hold hc hf hdep
  have h1 := h0 e w1 hS (fun t ht => hold t (fun j o' hj => by
    have := List.all_eq_true.1 ht o' (List.mem_of_getElem? hj)
    simpa using this)) hc hf (fun j t hjt => by
    rw [Bool.and_eq_true, Array.any_eq_true'] at hjt
    obtain ⟨⟨d, hd, hd2⟩, h3⟩ := hjt
    rw [Bool.and_eq_true, beq_iff_eq] at hd2
    rw [beq_iff_eq, Option.bind_eq_some_iff] at h3
    obtain ⟨o', ho', ht'⟩ := h3
    have := hdep d hd hd2.1 o' t (by rw [hd2.2]; exact ho') ht'
    rwa [hd2.2] at this)
  unfold FlowAt at h1 ⊢
  generalize (execOp e o).run P w1 = r at *
  have fin : ∀ v w', ((R.getD i (.val undef)).holds v w' ∧ Below w1.heap.size w1 w') → Below w.heap.size w w' ∧ (R.getD i (.val undef)).holds v w' ∧ ∀ j u, (R.getD j (.val undef)).holds u w1 → (R.getD j (.val undef)).holds u w' :=
    fun v w' h => ⟨hS.trans (h.2.mono hS.size), h.1, fun j u hu => FR.on (r := R.getD j (.val undef)) hu h.2⟩
  cases r with
  | ok n w' =>
    cases n <;> dsimp only at h1 ⊢
    · exact fin _ _ h1
    · exact fin _ _ h1
    all_goals first
      | exact h1.elim
      | exact Calls.mono h1 (fun x w'' he => by obtain ⟨v, rfl, hp⟩ := he; exact ⟨v, rfl, fin _ _ hp⟩)
  | halt x w' => exact h1.elim
end
section
open Go Go.RowKit

theorem wrap_in {x : Int} (h1 : -9223372036854775808 ≤ x) (h2 : x ≤ 9223372036854775807) : IntKind.i64.wrap x = x := by
  simp [IntKind.wrap, IntKind.signed, IntKind.bits]; omega
theorem times5 {n T x0 x1 x2 x3 x4 : Int} {g : Nat} {W : World} (hT : tmV n [x0, x1, x2, x3, x4] = T) (hn : 0 < n) (hn2 : n ≤ 1000000000) (hB : Blk W g 3 #[.int .i64 x0, .int .i64 x1, .int .i64 x2, .int .i64 x3, .int .i64 x4]) :
    Calls Tryz.prog 148 #[.int .i64 n, .slice (some ⟨g, 0, none⟩) 5 5] W fun r w' => ∃ v, r = .returned v ∧ v = .int .i64 T ∧ Below W.heap.size W w' := by
  refine (times_any n [x0, x1, x2, x3, x4] g 0 5 W hn hn2 (by simp) (by simp) (fun j h => ?_)).mono ?_
  · rw [Nat.zero_add, hB.cell j]
    match j, h with
    | 0, _ => rfl
    | 1, _ => rfl
    | 2, _ => rfl
    | 3, _ => rfl
    | 4, _ => rfl
  · rintro e w1 ⟨rfl, rfl⟩
    exact ⟨_, rfl, by rw [hT], Below.refl _ _⟩
set_option linter.unusedSimpArgs false in
set_option linter.unusedVariables false in
set_option maxRecDepth 8000 in
set_option maxHeartbeats 8000000 in
theorem valueModulo_any (d a c m e n : Int) (w : World) (hn : 0 < n) (hn2 : n ≤ 1000000000) :
    Calls Tryz.prog 149 #[.agg #[.int .i64 d, .int .i64 a, .int .i64 c], .int .i64 m, .int .i64 e, .int .i64 n] w fun r w' => r = .returned (.int .i64 (vqV d a c m e n)) ∧ Below w.heap.size w w' := by
  have Hv := Lib.hid (times_value d a c m e n)
  obtain ⟨T1, hT1⟩ : ∃ T, tmV n [d, m, m, m, m] = T := ⟨_, rfl⟩
  obtain ⟨T2, hT2⟩ : ∃ T, tmV n [a, m, m, e, e] = T := ⟨_, rfl⟩
  obtain ⟨T3, hT3⟩ : ∃ T, tmV n [c, e, e, e, e] = T := ⟨_, rfl⟩
  have ht1 := tmV_bd hn [d, m, m, m, m]
  have ht2 := tmV_bd hn [a, m, m, e, e]
  have ht3 := tmV_bd hn [c, e, e, e, e]
  rw [hT1] at ht1 Hv; rw [hT2] at ht2 Hv; rw [hT3] at ht3 Hv
  obtain ⟨a1, a2⟩ := ht1; obtain ⟨a3, a4⟩ := ht2; obtain ⟨a5, a6⟩ := ht3
  have hn0 : ¬ n = 0 := by omega
  have HT1 := Lib.hid hT1; have HT2 := Lib.hid hT2; have HT3 := Lib.hid hT3; clear hT1 hT2 hT3
  have s0 : 0 ≤ T1 + T2 := by omega
  have s1 : 0 ≤ T1 + T2 + T3 := by omega
  have hmd := md_bd (T1 + T2 + T3) hn
  obtain ⟨m1, m2⟩ := hmd
  go_enter Tryz.func149, Tryz.ntmps149
  go_upto_region 2 with fail
  obtain ⟨w1, hw9⟩ : ∃ x, x = (World.alloc w (Obj.cells #[.int .i64 d, .int .i64 a, .int .i64 c] 82)) := ⟨_, rfl⟩
  rw [← hw9]
  have hb1 : Below ((World.alloc w (Obj.cells #[.int .i64 d, .int .i64 a, .int .i64 c] 82))).heap.size (World.alloc w (Obj.cells #[.int .i64 d, .int .i64 a, .int .i64 c] 82)) w1 := by rw [hw9]; exact Below.refl _ _
  have S1 := Lib.hid (show w.heap.size + 1 ≤ w1.heap.size by have h9 := hb1.size; (try simp only [World.size_alloc, World.size_setCell, World.size_drew] at h9); omega)
  have NQQ := Lib.hid ((Blk.new w 82 #[.int .i64 d, .int .i64 a, .int .i64 c]).on hb1)
  have QQ := NQQ; clear NQQ
  have Hb1 := Lib.hid (bthen (bal (Below.refl w.heap.size w) (Obj.cells #[.int .i64 d, .int .i64 a, .int .i64 c] 82)) hb1)
  clear hb1
  clear hw9
  refine wp_region_flow2 [.val (.int .i64 n), .val (.pointer (some ⟨w.heap.size, 0, none⟩)), .val (.int .i64 d), .val (.int .i64 m), .val (.int .i64 m), .val (.int .i64 m), .val (.int .i64 m), .row 3 5 #[.int .i64 d, .int .i64 m, .int .i64 m, .int .i64 m, .int .i64 m], .val (.int .i64 T1), .val (.int .i64 n), .val (.pointer (some ⟨w.heap.size, 1, none⟩)), .val (.int .i64 a), .val (.int .i64 m), .val (.int .i64 m), .val (.int .i64 e), .val (.int .i64 e), .row 3 5 #[.int .i64 a, .int .i64 m, .int .i64 m, .int .i64 e, .int .i64 e], .val (.int .i64 T2), .val (.int .i64 (T1 + T2)), .val (.int .i64 n), .val (.pointer (some ⟨w.heap.size, 2, none⟩)), .val (.int .i64 c), .val (.int .i64 e), .val (.int .i64 e), .val (.int .i64 e), .val (.int .i64 e), .row 3 5 #[.int .i64 c, .int .i64 e, .int .i64 e, .int .i64 e, .int .i64 e], .val (.int .i64 T3), .val (.int .i64 (T1 + T2 + T3)), .val (.int .i64 n), .val (.int .i64 ((T1 + T2 + T3) % n)), .val (.int .i64 ((T1 + T2 + T3) % n))] (by kernel_rfl) (by kernel_rfl) ?_ ?_
  · refine ⟨?_, ?_, ?_, ?_, ?_, ?_, ?_, ?_, ?_, ?_, ?_, ?_, ?_, ?_, ?_, ?_, ?_, ?_, ?_, ?_, ?_, ?_, ?_, ?_, ?_, ?_, ?_, ?_, ?_, ?_, ?_, ?_, trivial⟩
    · intro ev W hS hold hc hf hdep
      have e9 : ev (.tmp 9) = .int .i64 n := hold 9 (by kernel_rfl)
      clear hold hdep
      show FlowAt _ _ _ _ (fun v w' => (FR.val (.int .i64 n)).holds v w' ∧ Below W.heap.size W w')
      unfold FlowAt FR.holds
      go_simp
      exact Below.refl _ _
    · intro ev W hS hold hc hf hdep
      have e4 : ev (.tmp 4) = .pointer (some ⟨w.heap.size, 0, none⟩) := hold 4 (by kernel_rfl)
      clear hold hdep
      show FlowAt _ _ _ _ (fun v w' => (FR.val (.pointer (some ⟨w.heap.size, 0, none⟩))).holds v w' ∧ Below W.heap.size W w')
      unfold FlowAt FR.holds
      go_simp
      exact Below.refl _ _
    · intro ev W hS hold hc hf hdep
      have e12 : ev (.tmp 12) = (.pointer (some ⟨w.heap.size, 0, none⟩)) := hdep 1 12 (by kernel_rfl)
      have q := (hS.cell (p := ⟨w.heap.size, 0, none⟩) QQ.out.lt).trans (QQ.out.cell 0)
      clear hold hdep
      show FlowAt _ _ _ _ (fun v w' => (FR.val (.int .i64 d)).holds v w' ∧ Below W.heap.size W w')
      unfold FlowAt FR.holds
      go_simp
      exact Below.refl _ _
    · intro ev W hS hold hc hf hdep
      have e1 : ev (.tmp 1) = .int .i64 m := hold 1 (by kernel_rfl)
      clear hold hdep
      show FlowAt _ _ _ _ (fun v w' => (FR.val (.int .i64 m)).holds v w' ∧ Below W.heap.size W w')
      unfold FlowAt FR.holds
      go_simp
      exact Below.refl _ _
    · intro ev W hS hold hc hf hdep
      have e1 : ev (.tmp 1) = .int .i64 m := hold 1 (by kernel_rfl)
      clear hold hdep
      show FlowAt _ _ _ _ (fun v w' => (FR.val (.int .i64 m)).holds v w' ∧ Below W.heap.size W w')
      unfold FlowAt FR.holds
      go_simp
      exact Below.refl _ _
    · intro ev W hS hold hc hf hdep
      have e1 : ev (.tmp 1) = .int .i64 m := hold 1 (by kernel_rfl)
      clear hold hdep
      show FlowAt _ _ _ _ (fun v w' => (FR.val (.int .i64 m)).holds v w' ∧ Below W.heap.size W w')
      unfold FlowAt FR.holds
      go_simp
      exact Below.refl _ _
    · intro ev W hS hold hc hf hdep
      have e1 : ev (.tmp 1) = .int .i64 m := hold 1 (by kernel_rfl)
      clear hold hdep
      show FlowAt _ _ _ _ (fun v w' => (FR.val (.int .i64 m)).holds v w' ∧ Below W.heap.size W w')
      unfold FlowAt FR.holds
      go_simp
      exact Below.refl _ _
    · intro ev W hS hold hc hf hdep
      have e13 : ev (.tmp 13) = (.int .i64 d) := hdep 2 13 (by kernel_rfl)
      have e14 : ev (.tmp 14) = (.int .i64 m) := hdep 3 14 (by kernel_rfl)
      have e15 : ev (.tmp 15) = (.int .i64 m) := hdep 4 15 (by kernel_rfl)
      have e16 : ev (.tmp 16) = (.int .i64 m) := hdep 5 16 (by kernel_rfl)
      have e17 : ev (.tmp 17) = (.int .i64 m) := hdep 6 17 (by kernel_rfl)
      clear hold hdep
      show FlowAt _ _ _ _ (fun v w' => (FR.row 3 5 #[.int .i64 d, .int .i64 m, .int .i64 m, .int .i64 m, .int .i64 m]).holds v w' ∧ Below W.heap.size W w')
      unfold FlowAt FR.holds
      go_simp
      exact ⟨Blk.new _ _ _, bal (Below.refl _ _) _⟩
    · intro ev W hS hold hc hf hdep
      have e11 : ev (.tmp 11) = (.int .i64 n) := hdep 0 11 (by kernel_rfl)
      obtain ⟨g18, e18, B18⟩ : (FR.row 3 5 #[.int .i64 d, .int .i64 m, .int .i64 m, .int .i64 m, .int .i64 m]).holds (ev (.tmp 18)) W := hdep 7 18 (by kernel_rfl)
      clear hold hdep
      show FlowAt _ _ _ _ (fun v w' => (FR.val (.int .i64 T1)).holds v w' ∧ Below W.heap.size W w')
      unfold FlowAt FR.holds
      go_simp
      go_at_call 148
      exact times5 HT1.out hn hn2 B18
    · intro ev W hS hold hc hf hdep
      have e9 : ev (.tmp 9) = .int .i64 n := hold 9 (by kernel_rfl)
      clear hold hdep
      show FlowAt _ _ _ _ (fun v w' => (FR.val (.int .i64 n)).holds v w' ∧ Below W.heap.size W w')
      unfold FlowAt FR.holds
      go_simp
      exact Below.refl _ _
    · intro ev W hS hold hc hf hdep
      have e4 : ev (.tmp 4) = .pointer (some ⟨w.heap.size, 0, none⟩) := hold 4 (by kernel_rfl)
      clear hold hdep
      show FlowAt _ _ _ _ (fun v w' => (FR.val (.pointer (some ⟨w.heap.size, 1, none⟩))).holds v w' ∧ Below W.heap.size W w')
      unfold FlowAt FR.holds
      go_simp
      exact Below.refl _ _
    · intro ev W hS hold hc hf hdep
      have e21 : ev (.tmp 21) = (.pointer (some ⟨w.heap.size, 1, none⟩)) := hdep 10 21 (by kernel_rfl)
      have q := (hS.cell (p := ⟨w.heap.size, 1, none⟩) QQ.out.lt).trans (QQ.out.cell 1)
      clear hold hdep
      show FlowAt _ _ _ _ (fun v w' => (FR.val (.int .i64 a)).holds v w' ∧ Below W.heap.size W w')
      unfold FlowAt FR.holds
      go_simp
      exact Below.refl _ _
    · intro ev W hS hold hc hf hdep
      have e1 : ev (.tmp 1) = .int .i64 m := hold 1 (by kernel_rfl)
      clear hold hdep
      show FlowAt _ _ _ _ (fun v w' => (FR.val (.int .i64 m)).holds v w' ∧ Below W.heap.size W w')
      unfold FlowAt FR.holds
      go_simp
      exact Below.refl _ _
    · intro ev W hS hold hc hf hdep
      have e1 : ev (.tmp 1) = .int .i64 m := hold 1 (by kernel_rfl)
      clear hold hdep
      show FlowAt _ _ _ _ (fun v w' => (FR.val (.int .i64 m)).holds v w' ∧ Below W.heap.size W w')
      unfold FlowAt FR.holds
      go_simp
      exact Below.refl _ _
    · intro ev W hS hold hc hf hdep
      have e2 : ev (.tmp 2) = .int .i64 e := hold 2 (by kernel_rfl)
      clear hold hdep
      show FlowAt _ _ _ _ (fun v w' => (FR.val (.int .i64 e)).holds v w' ∧ Below W.heap.size W w')
      unfold FlowAt FR.holds
      go_simp
      exact Below.refl _ _
    · intro ev W hS hold hc hf hdep
      have e2 : ev (.tmp 2) = .int .i64 e := hold 2 (by kernel_rfl)
      clear hold hdep
      show FlowAt _ _ _ _ (fun v w' => (FR.val (.int .i64 e)).holds v w' ∧ Below W.heap.size W w')
      unfold FlowAt FR.holds
      go_simp
      exact Below.refl _ _
    · intro ev W hS hold hc hf hdep
      have e22 : ev (.tmp 22) = (.int .i64 a) := hdep 11 22 (by kernel_rfl)
      have e23 : ev (.tmp 23) = (.int .i64 m) := hdep 12 23 (by kernel_rfl)
      have e24 : ev (.tmp 24) = (.int .i64 m) := hdep 13 24 (by kernel_rfl)
      have e25 : ev (.tmp 25) = (.int .i64 e) := hdep 14 25 (by kernel_rfl)
      have e26 : ev (.tmp 26) = (.int .i64 e) := hdep 15 26 (by kernel_rfl)
      clear hold hdep
      show FlowAt _ _ _ _ (fun v w' => (FR.row 3 5 #[.int .i64 a, .int .i64 m, .int .i64 m, .int .i64 e, .int .i64 e]).holds v w' ∧ Below W.heap.size W w')
      unfold FlowAt FR.holds
      go_simp
      exact ⟨Blk.new _ _ _, bal (Below.refl _ _) _⟩
    · intro ev W hS hold hc hf hdep
      have e20 : ev (.tmp 20) = (.int .i64 n) := hdep 9 20 (by kernel_rfl)
      obtain ⟨g27, e27, B27⟩ : (FR.row 3 5 #[.int .i64 a, .int .i64 m, .int .i64 m, .int .i64 e, .int .i64 e]).holds (ev (.tmp 27)) W := hdep 16 27 (by kernel_rfl)
      clear hold hdep
      show FlowAt _ _ _ _ (fun v w' => (FR.val (.int .i64 T2)).holds v w' ∧ Below W.heap.size W w')
      unfold FlowAt FR.holds
      go_simp
      go_at_call 148
      exact times5 HT2.out hn hn2 B27
    · intro ev W hS hold hc hf hdep
      have e19 : ev (.tmp 19) = (.int .i64 T1) := hdep 8 19 (by kernel_rfl)
      have e28 : ev (.tmp 28) = (.int .i64 T2) := hdep 17 28 (by kernel_rfl)
      clear hold hdep
      show FlowAt _ _ _ _ (fun v w' => (FR.val (.int .i64 (T1 + T2))).holds v w' ∧ Below W.heap.size W w')
      unfold FlowAt FR.holds
      go_simp
      exact ⟨wrap_in (by omega) (by omega), Below.refl _ _⟩
    · intro ev W hS hold hc hf hdep
      have e9 : ev (.tmp 9) = .int .i64 n := hold 9 (by kernel_rfl)
      clear hold hdep
      show FlowAt _ _ _ _ (fun v w' => (FR.val (.int .i64 n)).holds v w' ∧ Below W.heap.size W w')
      unfold FlowAt FR.holds
      go_simp
      exact Below.refl _ _
    · intro ev W hS hold hc hf hdep
      have e4 : ev (.tmp 4) = .pointer (some ⟨w.heap.size, 0, none⟩) := hold 4 (by kernel_rfl)
      clear hold hdep
      show FlowAt _ _ _ _ (fun v w' => (FR.val (.pointer (some ⟨w.heap.size, 2, none⟩))).holds v w' ∧ Below W.heap.size W w')
      unfold FlowAt FR.holds
      go_simp
      exact Below.refl _ _
    · intro ev W hS hold hc hf hdep
      have e31 : ev (.tmp 31) = (.pointer (some ⟨w.heap.size, 2, none⟩)) := hdep 20 31 (by kernel_rfl)
      have q := (hS.cell (p := ⟨w.heap.size, 2, none⟩) QQ.out.lt).trans (QQ.out.cell 2)
      clear hold hdep
      show FlowAt _ _ _ _ (fun v w' => (FR.val (.int .i64 c)).holds v w' ∧ Below W.heap.size W w')
      unfold FlowAt FR.holds
      go_simp
      exact Below.refl _ _
    · intro ev W hS hold hc hf hdep
      have e2 : ev (.tmp 2) = .int .i64 e := hold 2 (by kernel_rfl)
      clear hold hdep
      show FlowAt _ _ _ _ (fun v w' => (FR.val (.int .i64 e)).holds v w' ∧ Below W.heap.size W w')
      unfold FlowAt FR.holds
      go_simp
      exact Below.refl _ _
    · intro ev W hS hold hc hf hdep
      have e2 : ev (.tmp 2) = .int .i64 e := hold 2 (by kernel_rfl)
      clear hold hdep
      show FlowAt _ _ _ _ (fun v w' => (FR.val (.int .i64 e)).holds v w' ∧ Below W.heap.size W w')
      unfold FlowAt FR.holds
      go_simp
      exact Below.refl _ _
    · intro ev W hS hold hc hf hdep
      have e2 : ev (.tmp 2) = .int .i64 e := hold 2 (by kernel_rfl)
      clear hold hdep
      show FlowAt _ _ _ _ (fun v w' => (FR.val (.int .i64 e)).holds v w' ∧ Below W.heap.size W w')
      unfold FlowAt FR.holds
      go_simp
      exact Below.refl _ _
    · intro ev W hS hold hc hf hdep
      have e2 : ev (.tmp 2) = .int .i64 e := hold 2 (by kernel_rfl)
      clear hold hdep
      show FlowAt _ _ _ _ (fun v w' => (FR.val (.int .i64 e)).holds v w' ∧ Below W.heap.size W w')
      unfold FlowAt FR.holds
      go_simp
      exact Below.refl _ _
    · intro ev W hS hold hc hf hdep
      have e32 : ev (.tmp 32) = (.int .i64 c) := hdep 21 32 (by kernel_rfl)
      have e33 : ev (.tmp 33) = (.int .i64 e) := hdep 22 33 (by kernel_rfl)
      have e34 : ev (.tmp 34) = (.int .i64 e) := hdep 23 34 (by kernel_rfl)
      have e35 : ev (.tmp 35) = (.int .i64 e) := hdep 24 35 (by kernel_rfl)
      have e36 : ev (.tmp 36) = (.int .i64 e) := hdep 25 36 (by kernel_rfl)
      clear hold hdep
      show FlowAt _ _ _ _ (fun v w' => (FR.row 3 5 #[.int .i64 c, .int .i64 e, .int .i64 e, .int .i64 e, .int .i64 e]).holds v w' ∧ Below W.heap.size W w')
      unfold FlowAt FR.holds
      go_simp
      exact ⟨Blk.new _ _ _, bal (Below.refl _ _) _⟩
    · intro ev W hS hold hc hf hdep
      have e30 : ev (.tmp 30) = (.int .i64 n) := hdep 19 30 (by kernel_rfl)
      obtain ⟨g37, e37, B37⟩ : (FR.row 3 5 #[.int .i64 c, .int .i64 e, .int .i64 e, .int .i64 e, .int .i64 e]).holds (ev (.tmp 37)) W := hdep 26 37 (by kernel_rfl)
      clear hold hdep
      show FlowAt _ _ _ _ (fun v w' => (FR.val (.int .i64 T3)).holds v w' ∧ Below W.heap.size W w')
      unfold FlowAt FR.holds
      go_simp
      go_at_call 148
      exact times5 HT3.out hn hn2 B37
    · intro ev W hS hold hc hf hdep
      have e29 : ev (.tmp 29) = (.int .i64 (T1 + T2)) := hdep 18 29 (by kernel_rfl)
      have e38 : ev (.tmp 38) = (.int .i64 T3) := hdep 27 38 (by kernel_rfl)
      clear hold hdep
      show FlowAt _ _ _ _ (fun v w' => (FR.val (.int .i64 (T1 + T2 + T3))).holds v w' ∧ Below W.heap.size W w')
      unfold FlowAt FR.holds
      go_simp
      exact ⟨wrap_in (by omega) (by omega), Below.refl _ _⟩
    · intro ev W hS hold hc hf hdep
      have e3 : ev (.tmp 3) = .int .i64 n := hold 3 (by kernel_rfl)
      clear hold hdep
      show FlowAt _ _ _ _ (fun v w' => (FR.val (.int .i64 n)).holds v w' ∧ Below W.heap.size W w')
      unfold FlowAt FR.holds
      go_simp
      exact Below.refl _ _
    · intro ev W hS hold hc hf hdep
      have e39 : ev (.tmp 39) = (.int .i64 (T1 + T2 + T3)) := hdep 28 39 (by kernel_rfl)
      have e40 : ev (.tmp 40) = (.int .i64 n) := hdep 29 40 (by kernel_rfl)
      clear hold hdep
      show FlowAt _ _ _ _ (fun v w' => (FR.val (.int .i64 ((T1 + T2 + T3) % n))).holds v w' ∧ Below W.heap.size W w')
      unfold FlowAt FR.holds
      go_simp
      exact ⟨Int.tmod_eq_emod_of_nonneg s1, Below.refl _ _⟩
    · intro ev W hS hold hc hf hdep
      have e41 : ev (.tmp 41) = (.int .i64 ((T1 + T2 + T3) % n)) := hdep 30 41 (by kernel_rfl)
      clear hold hdep
      show FlowAt _ _ _ _ (fun v w' => (FR.val (.int .i64 ((T1 + T2 + T3) % n))).holds v w' ∧ Below W.heap.size W w')
      unfold FlowAt FR.holds
      go_simp
      exact Below.refl _ _
  · intro f wz hbz hfz
    have h31 : f 31 = .int .i64 ((T1 + T2 + T3) % n) := hfz 31 (by decide)
    have HbZ := Lib.hid (bthen Hb1.out hbz)
    clear hfz hbz
    simp only [putsF, List.setIfInBounds_toArray, List.set_cons_zero, List.set_cons_succ, Nat.zero_add, Nat.reduceAdd]
    rw [h31]
    generalize f 0 = z0
    go_wp2
    go_ret
    exact ⟨by rw [Hv.out]; rfl, HbZ.out⟩
end
end Go.Proofs.YthdfpfhkmfmnbaaGreat
