/- Own texts put together: Classes, steps, neighbours of two curves, isomorphic curves: the walks of both sides; What the draws of curves with neighbours call: a number in a list, an asked neighbour, a curve scaled by two; Carried points, as both sides reckon them: one plain value. Conditions: those of each theorem. -/
import Derived.Test.YtacehhcpfollnaaGreatIsM7
import Derived.Test.YtacehhcpfollnaaGreatIsM4
namespace Go.Proofs.YtacehhcpfollnaaGreat
section
open Go Go.RowKit

def clasV (a b : Int) : List Cu × Bool := if curveB a b = true then (match clsV a b with | some T => (srt T, true) | none => ([], false)) else ([], false)
def stpO (o : Option (List (Cu × Int))) (m : Cu) : Int × Bool := match o with
  | none => (0, false)
  | some T => if m ∈ fsT T then ((T.getD ((fsT T).idxOf m) (m, 0)).2, true) else (0, false)
def stpV (a b c d : Int) : Int × Bool := if curveB a b = true ∧ curveB c d = true then stpO (clsV a b) (smC c d) else (0, false)
def twoV (a b c d : Int) : Bool × Bool := if curveB a b = true ∧ curveB c d = true then (if (allV a b).2 = true then (decide (smC c d ∈ (allV a b).1), true) else (false, false)) else (false, false)
def isoV (a b c d : Int) : Bool × Bool := if curveB a b = true ∧ curveB c d = true then (decide (smC a b = smC c d), true) else (false, false)
theorem both_no1 {a b c d : Int} (h : curveB a b = false) : ¬ (curveB a b = true ∧ curveB c d = true) := by rw [h]; simp
theorem both_no2 {a b c d : Int} (h : curveB c d = false) : ¬ (curveB a b = true ∧ curveB c d = true) := by rw [h]; simp
theorem srt_of {T : List (Cu × Int)} {d : List Cu} (hn : (fsT T).Nodup) (hp : d.Perm (fsT T)) (hs : ∀ i j, i < j → j < d.length → ¬ cmpCu (cuS.get d j) (cuS.get d i) < 0) : d = srt T := by
  have hd : d.Pairwise ltC := by
    rw [List.pairwise_iff_getElem]
    intro i j hi hj hij
    have h1 := hs i j hij hj
    rw [getCu hi, getCu hj] at h1
    have h2 : d.Nodup := hp.nodup_iff.2 hn
    rw [List.nodup_iff_pairwise_ne, List.pairwise_iff_getElem] at h2
    exact ltC_or h1 (fun e => h2 i j hi hj hij e.symm)
  exact srt_uniq hd (setC_srt _) (fun c => by rw [hp.mem_iff]; exact (setC_mem c _).symm)
theorem setC_take {L : List Cu} {k : Nat} (h : k < L.length) : setC (L.take (k + 1)) = putC (setC (L.take k)) (cuS.get L k) := by
  rw [List.take_succ_eq_append_getElem h, setC_snoc, getCu h]
end
section
open Go Go.RowKit

def askB (a b e : Int) : Bool := curveB a b && decide (e ∈ rootsV a b)
def nqV (a b e : Int) : Option Cu := if askB a b e = true then nbV a b e else none
theorem hasNo {es : List Int} {x : Int} (h : ∀ j, j < es.length → ¬ inS.get es j = x) : decide (x ∈ es) = false := by
  refine decide_eq_false (fun hm => ?_)
  obtain ⟨j, hj, e⟩ := List.getElem_of_mem hm
  exact h j hj (by show (es.getD j 0) = x; rw [List.getD_eq_getElem?_getD, List.getElem?_eq_getElem hj]; exact e)
theorem hasYes {es : List Int} {x : Int} {j : Nat} (hj : j < es.length) (h : inS.get es j = x) : decide (x ∈ es) = true := by
  refine decide_eq_true ?_
  have e : inS.get es j = es[j] := by show (es.getD j 0) = _; rw [List.getD_eq_getElem?_getD, List.getElem?_eq_getElem hj]; rfl
  rw [← h, e]; exact List.getElem_mem hj
set_option maxHeartbeats 1600000 in
theorem l1Has_any (v : Value) (es : List Int) (x : Int) (w : World) (h : Rd inS w w.heap.size v es) :
    Calls Tryz.prog 92 #[v, .int .i64 x] w fun r w' => r = .returned (.bool (decide (x ∈ es))) ∧ Below w.heap.size w w' := by
  obtain ⟨A, c, rfl, hcc, hm, hA⟩ := h
  unfold maxLen at hm
  go_enter Tryz.func92, Tryz.ntmps92
  go_wp2
  go_loopw [9] (fun i wr => ∃ k : Nat, k ≤ es.length ∧ i = .int .i64 k ∧ Hid (∀ j, j < k → ¬ inS.get es j = x) ∧ Hid (Below w.heap.size w wr)) (fun i _ => es.length - (intOf i).toNat)
  case atStart => exact ⟨0, Nat.zero_le _, rfl, Lib.hid (fun j hj => absurd hj (Nat.not_lt_zero _)), Lib.hid (Below.refl _ _)⟩
  case round =>
    obtain ⟨k, hk, rfl, Hno, Hb⟩ := hrel
    by_cases hlt : k < es.length
    · obtain ⟨g, off, rfl, hg, hcell⟩ := hA (by omega)
      have f0 := in_cells hcell k hlt
      clear hcell hA
      rw [← Hb.out.cell (p := ⟨_, _, _⟩) hg] at f0
      have hgr : g < wr.heap.size := Nat.lt_of_lt_of_le hg Hb.out.size
      have hi0 : (0 : Int) ≤ (k : Int) := by omega
      have hi1 : (k : Int) < (es.length : Int) := by omega
      have Hy := Lib.hid (fun (h : inS.get es k = x) => hasYes hlt h)
      have Hn := Lib.hid (fun (h : ¬ inS.get es k = x) => all_lt_succ (p := fun j => ¬ inS.get es j = x) Hno.out h)
      obtain ⟨y, hy⟩ : ∃ y, inS.get es k = y := ⟨_, rfl⟩
      rw [hy] at f0 Hy Hn
      clear hy
      by_cases hq : y = x
      · have hd : (y == x) = true := by rw [hq]; simp
        have Hfin := Lib.hid (Hy.out hq)
        clear hq Hy Hn
        go_wp2
        go_ret
        exact ⟨by rw [Hfin.out]; rfl, Hb.out⟩
      · have hd : (y == x) = false := by simp [hq]
        have Hst := Lib.hid (Hn.out hq)
        clear hq Hy Hn
        go_wp2
        go_roundw
        case rel => exact ⟨k + 1, by omega, by go_num, Hst, Hb⟩
        case measure => simp [intOf]; omega
    · have Hfin := Lib.hid (hasNo (fun j hj => Hno.out j (by omega)))
      go_wp2
      go_ret
      exact ⟨by rw [Hfin.out]; rfl, Hb.out⟩
set_option maxRecDepth 8000 in
set_option maxHeartbeats 4000000 in
theorem asked_any (a b e : Int) (w : World) :
    Calls Tryz.prog 47 #[.agg #[.int .i64 a, .int .i64 b], .int .i64 e] w fun r w' => r = .returned (.bool (askB a b e)) ∧ Below w.heap.size w w' := by
  have HB := Lib.hid (Blk.new w 25 #[.int .i64 a, .int .i64 b])
  cases h1 : curveB a b
  · have Hf := Lib.hid (show askB a b e = false by unfold askB; rw [h1]; rfl)
    go_enter Tryz.func47, Tryz.ntmps47
    go_wp2_with fail
    refine (cvS_lit h1 _).mono ?_; rintro r w1 ⟨rfl, hb1⟩
    have Hb1 := Lib.hid (bthen (bal (Below.refl _ _) _) hb1); clear hb1
    go_wp2
    go_ret
    exact ⟨by rw [Hf.out]; rfl, Hb1.out⟩
  · have Hf := Lib.hid (show askB a b e = decide (e ∈ rootsV a b) by unfold askB; rw [h1]; rfl)
    go_enter Tryz.func47, Tryz.ntmps47
    go_wp2_with fail
    refine (cvS_lit h1 _).mono ?_; rintro r w1 ⟨rfl, hb1⟩
    have Hb1 := Lib.hid (bthen (bal (Below.refl _ _) _) hb1)
    have HB1 := Lib.hid (HB.out.on hb1); clear hb1
    have q0 : w1.cell? ⟨w.heap.size, 0, none⟩ = some (.int .i64 a) := HB1.out.cell 0
    have q1 : w1.cell? ⟨w.heap.size, 1, none⟩ = some (.int .i64 b) := HB1.out.cell 1
    have ql := HB1.out.lt
    go_wp2_with fail
    refine (ecRoots_any a b _ h1).mono ?_; rintro r w2 ⟨⟨v, rfl, hown⟩, hb2⟩
    have Hb2 := Lib.hid (bthen Hb1.out hb2)
    have Hrd := Lib.hid (Rd.of_own (S := inS) (es := rootsV a b) (by rw [inS_flat]; exact hown) rfl)
    clear hb2 hown q0 q1 ql
    go_wp2_with fail
    refine (l1Has_any _ (rootsV a b) e _ Hrd.out).mono ?_; rintro r w3 ⟨rfl, hb3⟩
    have Hb3 := Lib.hid (bthen Hb2.out hb3); clear hb3
    go_wp2
    go_ret
    exact ⟨by rw [Hf.out]; rfl, Hb3.out⟩
set_option maxRecDepth 8000 in
set_option maxHeartbeats 4000000 in
theorem neS_any (a b e : Int) (w : World) :
    Calls Tryz.prog 9 #[.agg #[.int .i64 a, .int .i64 b], .int .i64 e] w fun r w' => CuR (nqV a b e) r ∧ Below w.heap.size w w' := by
  have HB := Lib.hid ((Blk.new w 25 #[.int .i64 a, .int .i64 b]).alloc (Obj.cells #[.int .i64 0, .int .i64 0] 25))
  have HR := Lib.hid (Blk.new1 w (Obj.cells #[.int .i64 a, .int .i64 b] 25) 25 #[.int .i64 0, .int .i64 0])
  have HbA := Lib.hid (show Below w.heap.size w ((w.alloc (Obj.cells #[.int .i64 a, .int .i64 b] 25)).alloc (Obj.cells #[.int .i64 0, .int .i64 0] 25)) from bal (bal (Below.refl _ _) _) _)
  cases h1 : askB a b e
  · have Hf := Lib.hid (show nqV a b e = none by unfold nqV; rw [if_neg (by rw [h1]; exact Bool.false_ne_true)])
    go_enter Tryz.func9, Tryz.ntmps9
    go_wp2_with fail
    refine (asked_any a b e _).mono ?_; rintro r w1 ⟨rfl, hb1⟩
    rw [h1]
    clear h1
    have HR1 := Lib.hid (HR.out.on hb1)
    have Hb1 := Lib.hid (bthen HbA.out hb1); clear hb1
    have r0 := HR1.out.cell 0
    have r1 := HR1.out.cell 1
    have rl := HR1.out.lt
    have rf := HR1.out.frozen
    simp at r0 r1
    have HB0 := Lib.hid (bst (bst Hb1.out (p := ⟨w.heap.size + 1, 0, none⟩) (by simp) (.int .i64 0)) (p := ⟨w.heap.size + 1, 1, none⟩) (by simp) (.int .i64 0))
    go_wp2
    clear r0 r1 rl rf
    have HR5 := HR1.out.set2 (b0 := .int .i64 0) (b1 := .int .i64 0)
    have r0 := HR5.cell 0
    have r1 := HR5.cell 1
    simp at r0 r1
    exact bodyPost_ret (v := .tuple #[.agg #[.int .i64 0, .int .i64 0], .bool false]) (by simp [results, Tryz.results9, go_sem, r0, r1]) rfl ⟨by rw [Hf.out]; rfl, HB0.out⟩
  · have Hf := Lib.hid (show nqV a b e = nbV a b e by unfold nqV; rw [if_pos h1])
    have Hq := Lib.hid (show curveB a b = true ∧ e ∈ rootsV a b by unfold askB at h1; rw [Bool.and_eq_true, decide_eq_true_eq] at h1; exact h1)
    go_enter Tryz.func9, Tryz.ntmps9
    go_wp2_with fail
    refine (asked_any a b e _).mono ?_; rintro r w1 ⟨rfl, hb1⟩
    rw [h1]
    clear h1
    have HR1 := Lib.hid (HR.out.on hb1)
    have HB1 := Lib.hid (HB.out.on hb1)
    have Hb1 := Lib.hid (bthen HbA.out hb1); clear hb1
    have q0 : w1.cell? ⟨w.heap.size, 0, none⟩ = some (.int .i64 a) := HB1.out.cell 0
    have q1 : w1.cell? ⟨w.heap.size, 1, none⟩ = some (.int .i64 b) := HB1.out.cell 1
    have ql := HB1.out.lt
    go_wp2_with fail
    refine (nbS_any a b e _ Hq.out.1 ((roots_mem Hq.out.1).1 Hq.out.2) (root_bd Hq.out.2)).mono ?_; rintro r w2 ⟨hr, hb2⟩
    clear q0 q1 ql
    have HR2 := Lib.hid (HR1.out.on hb2)
    have Hb2 := Lib.hid (bthen Hb1.out hb2); clear hb2
    have r0 := HR2.out.cell 0
    have r1 := HR2.out.cell 1
    have rl := HR2.out.lt
    have rf := HR2.out.frozen
    simp at r0 r1
    cases hv : nbV a b e with
    | none =>
      rw [hv] at hr Hf
      have hr2 : r = .returned (.tuple #[.agg #[.int .i64 0, .int .i64 0], .bool false]) := hr
      subst hr2
      clear hr hv
      have HB0 := Lib.hid (bst (bst Hb2.out (p := ⟨w.heap.size + 1, 0, none⟩) (by simp) (.int .i64 0)) (p := ⟨w.heap.size + 1, 1, none⟩) (by simp) (.int .i64 0))
      go_wp2
      clear r0 r1 rl rf
      have HR5 := HR2.out.set2 (b0 := .int .i64 0) (b1 := .int .i64 0)
      have r0 := HR5.cell 0
      have r1 := HR5.cell 1
      simp at r0 r1
      exact bodyPost_ret (v := .tuple #[.agg #[.int .i64 0, .int .i64 0], .bool false]) (by simp [results, Tryz.results9, go_sem, r0, r1]) rfl ⟨by rw [Hf.out]; rfl, HB0.out⟩
    | some d =>
      rw [hv] at hr Hf
      obtain ⟨x0, y0⟩ := d
      have hr2 : r = .returned (.tuple #[.agg #[.int .i64 x0, .int .i64 y0], .bool true]) := hr
      subst hr2
      clear hr hv
      have HB0 := Lib.hid (bst (bst Hb2.out (p := ⟨w.heap.size + 1, 0, none⟩) (by simp) (.int .i64 x0)) (p := ⟨w.heap.size + 1, 1, none⟩) (by simp) (.int .i64 y0))
      go_wp2
      clear r0 r1 rl rf
      have HR5 := HR2.out.set2 (b0 := .int .i64 x0) (b1 := .int .i64 y0)
      have r0 := HR5.cell 0
      have r1 := HR5.cell 1
      simp at r0 r1
      exact bodyPost_ret (v := .tuple #[.agg #[.int .i64 x0, .int .i64 y0], .bool true]) (by simp [results, Tryz.results9, go_sem, r0, r1]) rfl ⟨by rw [Hf.out]; rfl, HB0.out⟩
end
section
open Go Go.RowKit

abbrev MF : Int := 1000000000
abbrev good (x : Fq) : Prop := frB 1000000000 x.1 x.2 = true
/-- Is y y = (x x + a) x + b, if all parts are fractions? -/
def rhsV (a b : Int) (x : Fq) : Option Fq := (mulF 1000000000 x x).bind fun s1 => (addF 1000000000 s1 (a, 1)).bind fun s2 => (mulF 1000000000 s2 x).bind fun s3 => addF 1000000000 s3 (b, 1)
def onV (a b : Int) (x y : Fq) : Bool := match mulF 1000000000 y y, rhsV a b x with
  | some l, some r => decide (l = r)
  | _, _ => false
def crV (a e : Int) (x y : Fq) : Option (Fq × Fq) := (subF 1000000000 x (e, 1)).bind fun far => (divF 1000000000 (3 * e * e + a, 1) far).bind fun ad => (addF 1000000000 x ad).bind fun u => (divF 1000000000 ad far).bind fun q => (subF 1000000000 (1, 1) q).bind fun le => (mulF 1000000000 y le).bind fun v => some (u, v)
def carV (a b e : Int) (x y : Fq) : Option (Fq × Fq) := if (askB a b e && (frB 1000000000 x.1 x.2 && frB 1000000000 y.1 y.2) && !decide (x = (e, 1)) && onV a b x y) = true then crV a e x y else none
theorem frB_int {n : Int} (h1 : -1000000000 ≤ n) (h2 : n ≤ 1000000000) : frB 1000000000 n 1 = true := by
  unfold frB
  simp only [Bool.and_eq_true, decide_eq_true_eq]
  exact ⟨⟨⟨⟨by omega, by omega⟩, h1⟩, h2⟩, Int.gcd_one_right n⟩
theorem whoG_eq {n : Int} (h1 : -1000000000 ≤ n) (h2 : n ≤ 1000000000) : whoG n = some (n, 1) := by
  have hs : sgD n 1 = 1 := by unfold sgD; rw [if_neg (by omega), Int.gcd_one_right]; rfl
  have := mkF_yes (M := 1000000000) (n := n) (d := 1) (by omega) (by rw [hs, Int.tdiv_one, Int.tdiv_one]; exact frB_int h1 h2)
  rw [hs, Int.tdiv_one, Int.tdiv_one] at this
  exact this
theorem addF_good {x y z : Fq} (h : addF 1000000000 x y = some z) : good z := mkF_good h
theorem subF_good {x y z : Fq} (h : subF 1000000000 x y = some z) : good z := mkF_good h
theorem mulF_good {x y z : Fq} (h : mulF 1000000000 x y = some z) : good z := mkF_good h
theorem divF_good {x y z : Fq} (h : divF 1000000000 x y = some z) : good z := by
  unfold divF at h
  split at h
  · cases h
  · exact mkF_good h
theorem sumG_eq {x y : Fq} (h : good x) (k : good y) : sumG x y = addF 1000000000 x y := by unfold sumG; rw [if_pos (by rw [show frB 1000000000 x.1 x.2 = true from h, show frB 1000000000 y.1 y.2 = true from k]; rfl)]
theorem difG_eq {x y : Fq} (h : good x) (k : good y) : difG x y = subF 1000000000 x y := by unfold difG; rw [if_pos (by rw [show frB 1000000000 x.1 x.2 = true from h, show frB 1000000000 y.1 y.2 = true from k]; rfl)]
theorem mulG_eq {x y : Fq} (h : good x) (k : good y) : mulG x y = mulF 1000000000 x y := by unfold mulG; rw [if_pos (by rw [show frB 1000000000 x.1 x.2 = true from h, show frB 1000000000 y.1 y.2 = true from k]; rfl)]
theorem quoG_eq {x y : Fq} (h : good x) (k : good y) : quoG x y = divF 1000000000 x y := by unfold quoG; rw [if_pos (by rw [show frB 1000000000 x.1 x.2 = true from h, show frB 1000000000 y.1 y.2 = true from k]; rfl)]
theorem KpQ.fwd {k k' : Bool} {o : Option Fq} {x y : Int} {z : Fq} (h : KpQ k o x y k') (hk : k = true) (ho : o = some z) : k' = true ∧ (x, y) = z := by
  rcases h with ⟨h1, -, h3⟩ | ⟨-, h2, -, -⟩
  · rw [h3] at ho; injection ho with ho; exact ⟨h1, ho⟩
  · rcases h2 with h2 | h2
    · rw [h2] at hk; cases hk
    · rw [h2] at ho; cases ho
/-- The program's test, step by step. -/
theorem impl_on {a b x1 x2 y1 y2 l1 l2 p1 p2 q1 q2 r1 r2 s1 s2 t1 t2 u1 u2 : Int} {k1 k2 k3 k4 k5 k6 k7 : Bool} (ha : -1000 ≤ a ∧ a ≤ 1000) (hb : -10000 ≤ b ∧ b ≤ 10000) (hx : good (x1, x2)) (hy : good (y1, y2))
    (h1 : KpQ true (mulG (y1, y2) (y1, y2)) l1 l2 k1) (h2 : KpQ k1 (mulG (x1, x2) (x1, x2)) p1 p2 k2) (h3 : KpQ k2 (whoG a) q1 q2 k3) (h4 : KpQ k3 (sumG (p1, p2) (q1, q2)) r1 r2 k4)
    (h5 : KpQ k4 (mulG (r1, r2) (x1, x2)) s1 s2 k5) (h6 : KpQ k5 (whoG b) t1 t2 k6) (h7 : KpQ k6 (sumG (s1, s2) (t1, t2)) u1 u2 k7) :
    onV a b (x1, x2) (y1, y2) = (k7 && decide ((l1, l2) = (u1, u2))) := by
  rw [mulG_eq hy hy] at h1
  rw [mulG_eq hx hx] at h2
  rw [whoG_eq (by omega) (by omega)] at h3 h6
  unfold onV rhsV
  cases e1 : mulF 1000000000 (y1, y2) (y1, y2) with
  | none =>
    have gg : ∀ {k k' : Bool} {o : Option Fq} {x y : Int}, KpQ k o x y k' → (k = false ∨ o = none) → k' = false := fun h e => by
      rcases h with ⟨-, h, h'⟩ | ⟨h, -⟩
      · rcases e with e | e
        · rw [e] at h; cases h
        · rw [e] at h'; cases h'
      · exact h
    rw [gg h7 (.inl (gg h6 (.inl (gg h5 (.inl (gg h4 (.inl (gg h3 (.inl (gg h2 (.inl (gg h1 (.inr e1)))))))))))))]
    rfl
  | some l =>
    obtain ⟨g1, w1⟩ := h1.fwd rfl e1
    have gg : ∀ {k k' : Bool} {o : Option Fq} {x y : Int}, KpQ k o x y k' → (k = false ∨ o = none) → k' = false := fun h e => by
      rcases h with ⟨-, h, h'⟩ | ⟨h, -⟩
      · rcases e with e | e
        · rw [e] at h; cases h
        · rw [e] at h'; cases h'
      · exact h
    cases e2 : mulF 1000000000 (x1, x2) (x1, x2) with
    | none =>
      rw [gg h7 (.inl (gg h6 (.inl (gg h5 (.inl (gg h4 (.inl (gg h3 (.inl (gg h2 (.inr e2)))))))))))]
      rfl
    | some p =>
      obtain ⟨g2, w2⟩ := h2.fwd g1 e2
      obtain ⟨g3, w3⟩ := h3.fwd g2 rfl
      have hp := mulF_good e2
      rw [w2, w3, sumG_eq hp (frB_int (by omega) (by omega))] at h4
      cases e4 : addF 1000000000 p (a, 1) with
      | none =>
        rw [gg h7 (.inl (gg h6 (.inl (gg h5 (.inl (gg h4 (.inr e4)))))))]
        simp only [Option.bind, e4]
        rfl
      | some r =>
        obtain ⟨g4, w4⟩ := h4.fwd g3 e4
        rw [w4, mulG_eq (addF_good e4) hx] at h5
        cases e5 : mulF 1000000000 r (x1, x2) with
        | none =>
          rw [gg h7 (.inl (gg h6 (.inl (gg h5 (.inr e5)))))]
          simp only [Option.bind, e4, e5]
          rfl
        | some s =>
          obtain ⟨g5, w5⟩ := h5.fwd g4 e5
          obtain ⟨g6, w6⟩ := h6.fwd g5 rfl
          rw [w5, w6, sumG_eq (mulF_good e5) (frB_int (by omega) (by omega))] at h7
          cases e7 : addF 1000000000 s (b, 1) with
          | none =>
            rw [gg h7 (.inr e7)]
            simp only [Option.bind, e4, e5, e7]
            rfl
          | some u =>
            obtain ⟨g7, w7⟩ := h7.fwd g6 e7
            rw [g7, w1, w7]
            simp only [Option.bind, e4, e5, e7]
            rfl
/-- The program's carried point, step by step: the flag tells whether there is one. -/
theorem impl_cr {a e x1 x2 y1 y2 c1 c2 d1 d2 f1 f2 g1 g2 i1 i2 j1 j2 m1 m2 n1 n2 v1 v2 : Int} {k7 k9 k10 k11 k12 k13 k14 k15 k16 k17 : Bool} (he : -100 ≤ e ∧ e ≤ 100) (ht : -1000000000 ≤ 3 * e * e + a ∧ 3 * e * e + a ≤ 1000000000) (hx : good (x1, x2)) (hy : good (y1, y2)) (h0 : k7 = true)
    (h9 : KpQ k7 (whoG e) c1 c2 k9) (h10 : KpQ k9 (difG (x1, x2) (c1, c2)) d1 d2 k10) (h11 : KpQ k10 (whoG (3 * e * e + a)) f1 f2 k11) (h12 : KpQ k11 (quoG (f1, f2) (d1, d2)) g1 g2 k12)
    (h13 : KpQ k12 (sumG (x1, x2) (g1, g2)) i1 i2 k13) (h14 : KpQ k13 (whoG 1) j1 j2 k14) (h15 : KpQ k14 (quoG (g1, g2) (d1, d2)) m1 m2 k15) (h16 : KpQ k15 (difG (j1, j2) (m1, m2)) n1 n2 k16) (h17 : KpQ k16 (mulG (y1, y2) (n1, n2)) v1 v2 k17) :
    crV a e (x1, x2) (y1, y2) = if k17 = true then some ((i1, i2), (v1, v2)) else none := by
  have gg : ∀ {k k' : Bool} {o : Option Fq} {x y : Int}, KpQ k o x y k' → (k = false ∨ o = none) → k' = false := fun h e => by
    rcases h with ⟨-, h, h'⟩ | ⟨h, -⟩
    · rcases e with e | e
      · rw [e] at h; cases h
      · rw [e] at h'; cases h'
    · exact h
  rw [whoG_eq (by omega) (by omega)] at h9 h11 h14
  obtain ⟨q9, w9⟩ := h9.fwd h0 rfl
  rw [w9, difG_eq hx (frB_int (by omega) (by omega))] at h10
  unfold crV
  cases e10 : subF 1000000000 (x1, x2) (e, 1) with
  | none => rw [gg h17 (.inl (gg h16 (.inl (gg h15 (.inl (gg h14 (.inl (gg h13 (.inl (gg h12 (.inl (gg h11 (.inl (gg h10 (.inr e10)))))))))))))))]; rfl
  | some far =>
    obtain ⟨q10, w10⟩ := h10.fwd q9 e10
    obtain ⟨q11, w11⟩ := h11.fwd q10 rfl
    rw [w10, w11, quoG_eq (frB_int (by omega) (by omega)) (subF_good e10)] at h12
    cases e12 : divF 1000000000 (3 * e * e + a, 1) far with
    | none => rw [gg h17 (.inl (gg h16 (.inl (gg h15 (.inl (gg h14 (.inl (gg h13 (.inl (gg h12 (.inr e12)))))))))))]; simp only [Option.bind, e12]; rfl
    | some ad =>
      obtain ⟨q12, w12⟩ := h12.fwd q11 e12
      rw [w12, sumG_eq hx (divF_good e12)] at h13
      cases e13 : addF 1000000000 (x1, x2) ad with
      | none => rw [gg h17 (.inl (gg h16 (.inl (gg h15 (.inl (gg h14 (.inl (gg h13 (.inr e13)))))))))]; simp only [Option.bind, e12, e13]; rfl
      | some u =>
        obtain ⟨q13, w13⟩ := h13.fwd q12 e13
        obtain ⟨q14, w14⟩ := h14.fwd q13 rfl
        rw [w12, w10, quoG_eq (divF_good e12) (subF_good e10)] at h15
        cases e15 : divF 1000000000 ad far with
        | none => rw [gg h17 (.inl (gg h16 (.inl (gg h15 (.inr e15)))))]; simp only [Option.bind, e12, e13, e15]; rfl
        | some q =>
          obtain ⟨q15, w15⟩ := h15.fwd q14 e15
          rw [w14, w15, difG_eq (frB_int (by omega) (by omega)) (divF_good e15)] at h16
          cases e16 : subF 1000000000 (1, 1) q with
          | none => rw [gg h17 (.inl (gg h16 (.inr e16)))]; simp only [Option.bind, e12, e13, e15, e16]; rfl
          | some le =>
            obtain ⟨q16, w16⟩ := h16.fwd q15 e16
            rw [w16, mulG_eq hy (subF_good e16)] at h17
            cases e17 : mulF 1000000000 (y1, y2) le with
            | none => rw [gg h17 (.inr e17)]; simp only [Option.bind, e12, e13, e15, e16, e17]; rfl
            | some v =>
              obtain ⟨q17, w17⟩ := h17.fwd q16 e17
              rw [q17, w17, w13]
              simp only [Option.bind, e12, e13, e15, e16, e17]
              rfl
end
end Go.Proofs.YtacehhcpfollnaaGreat
