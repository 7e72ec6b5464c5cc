/- slices.Delete of one entry. Conditions: none. -/
import Derived.Test.YtemdhofkhppefaaMergeL
namespace Go.Proofs.Ytemdhofkhppefaa
open Go Go.RowKit

def cutE (es : List En) (k : Nat) : List En := es.take k ++ es.drop (k + 1)
def dropG (es : List En) (a b : Int) : List En × Bool := if catB es && decide (firstN es a b < es.length) then (cutE es (firstN es a b), true) else ([], false)
theorem length_cutE {es : List En} {k : Nat} (hk : k < es.length) : (cutE es k).length + 1 = es.length := by
  unfold cutE
  rw [List.length_append, List.length_take, List.length_drop]
  omega
theorem dropG_len {es : List En} {a b : Int} (y : List En) (f : Bool) (h : dropG es a b = (y, f)) : y.length ≤ 12 := by
  unfold dropG at h
  split at h
  · rename_i hc
    obtain ⟨rfl, -⟩ := Prod.mk.inj h
    simp only [Bool.and_eq_true, decide_eq_true_eq] at hc
    have h1 := (catB_spec hc.1).1
    have h2 := length_cutE hc.2
    omega
  · obtain ⟨rfl, -⟩ := Prod.mk.inj h; simp
theorem dropG_bad {es : List En} {a b : Int} (h : catB es = false) : dropG es a b = ([], false) := by unfold dropG; rw [h]; rfl
theorem dropG_no {es : List En} {a b : Int} (h : ¬ firstN es a b < es.length) : dropG es a b = ([], false) := by unfold dropG; rw [decide_eq_false h, Bool.and_false]; rfl
theorem dropG_yes {es : List En} {a b : Int} (h : catB es = true) (h2 : firstN es a b < es.length) : dropG es a b = (cutE es (firstN es a b), true) := by unfold dropG; rw [h, decide_eq_true h2]; rfl

theorem step_append_runI {P : Program} {ops : Array Oper} {o : Oper} {a : Act} {w : World} {K : Act → World → Prop} {Q : Exit → Act → World → Prop} {E : Prop}
    (hg : o.guard = none) (d x : Operand) (dT sT : TypeId) (hop : o.op = Op.call { callee := Callee.builtin Builtin.append, args := #[d, x], argTypes := #[dT, sT] })
    (v u : Value) (hd : a.eval d = v) (hx : a.eval x = u) {v' : Value} {w' : World} (hr : (Builtin.append_ #[dT, sT] o.type #[v, u]).run P w = .ok v' w') (hK : K (a.put o.dst v') w') :
    if Region.wanted o (yielded ops a.tmps) = true then Oper.wp P o a w K Q else E := by
  have hw : Region.wanted o (yielded ops a.tmps) = true := by simp [Region.wanted, hg]
  rw [if_pos hw]
  unfold Oper.wp
  simp [execOp, hop, resolve, invoke, builtin, hd, hx, hr, Result.andThen]
  exact hK
theorem zeroE (w : World) : (zeroValue 53).run Try.prog w = .ok (.agg #[.int .i64 0, .int .i64 0, .int .i64 0, .int .i64 0, .int .i64 0]) w := by
  obtain ⟨i0, hi, hz0, hz1, hz2⟩ := info_parts infoEn2
  simp [zeroValue, typeInfo, hi, hz0]
theorem en_clear (w : World) {B g n cap i : Nat} {xs : List Value} (h : w.ownsRow B 53 5 (.slice (some ⟨g, 0, none⟩) n cap) n xs) (hi : i ≤ n) :
    ∃ l, ∀ ty c, (Builtin.clear_ #[26] ty #[.slice (some ⟨g, i * 5, none⟩) (n - i) c]).run Try.prog w = .ok (.tuple #[]) (w.setCells g (i * 5) l) :=
  ⟨_, fun ty c => run_clear_row (P := Try.prog) (z := .agg #[.int .i64 0, .int .i64 0, .int .i64 0, .int .i64 0, .int .i64 0]) Try.underlying26 zeroE
    (zeroCells_one (by
      intro j hj
      match j, hj with
      | 0, _ => rfl
      | 1, _ => rfl
      | 2, _ => rfl
      | 3, _ => rfl
      | 4, _ => rfl) (by decide) _)
    (by intro m; simp [Builtin.zeroCells, Value.cells]) h hi ty c⟩
theorem deleteEn_core (es : List En) (k B g cap : Nat) (w : World) (hown : w.ownsRow B 53 5 (.slice (some ⟨g, 0, none⟩) es.length cap) es.length (enS.flat es)) (hk : k < es.length) (a : Option Addr) (ha : a = some ⟨g, (k + 1) * 5, none⟩ ∨ k + 1 = es.length ∧ a = some ⟨g, 0, none⟩) (c : Nat) :
    ∃ w1, (Builtin.append_ #[26, 26] 26 #[.slice (some ⟨g, 0, none⟩) k cap, .slice a (es.length - (k + 1)) c]).run Try.prog w.drew = .ok (.slice (some ⟨g, 0, none⟩) (es.length - 1) cap) w1 ∧
      w1.ownsRow B 53 5 (.slice (some ⟨g, 0, none⟩) (es.length - 1) cap) (es.length - 1) (enS.flat (cutE es k)) ∧ w.drew.grownBy w1 (some g) := by
  obtain ⟨i0, hi, hz0, hz1, hz2⟩ := info_parts infoEn2
  have hcap := own_caps hown
  have hcut := own_cut hown.drew (Nat.le_of_lt hk)
  rw [show k * 5 = k * enS.size from rfl, flat_take] at hcut
  have hl : (enS.flat (es.drop (k + 1))).length = (es.length - (k + 1)) * 5 := by rw [Shape.length_flat, List.length_drop]; rfl
  have hsum : k + (es.length - (k + 1)) = es.length - 1 := by omega
  have hfl : enS.flat (cutE es k) = enS.flat (es.take k) ++ enS.flat (es.drop (k + 1)) := by unfold cutE; rw [Shape.flat_append]
  have htl : (enS.flat (es.take (k + 1))).length = (k + 1) * 5 := by rw [Shape.length_flat, List.length_take, Nat.min_eq_left (by omega)]; rfl
  rcases ha with rfl | ⟨h1, rfl⟩
  · have hsrc := own_add hown.drew (o := (k + 1) * 5) (cs := enS.flat (es.drop (k + 1))) (by
      intro j hj
      rw [flat_cut es (k + 1), List.getElem?_append_right (by omega), htl, show (k + 1) * 5 + j - (k + 1) * 5 = j by omega]) (by rw [hl, Nat.sub_mul]; omega)
    obtain ⟨w1, hr, ho, hg⟩ := run_append_fits (P := Try.prog) w.drew B 26 26 53 i0 5 Try.underlying26 hi hz1 g k cap _ hcut ⟨g, (k + 1) * 5, none⟩ (es.length - (k + 1)) c _ hl hsrc (en_one _) (by omega)
    rw [hsum] at hr ho
    rw [← hfl] at ho
    exact ⟨w1, hr, ho, hg⟩
  · have hnil : enS.flat (es.drop (k + 1)) = [] := List.eq_nil_of_length_eq_zero (by rw [hl, h1, Nat.sub_self, Nat.zero_mul])
    obtain ⟨w1, hr, ho, hg⟩ := run_append_fits (P := Try.prog) w.drew B 26 26 53 i0 5 Try.underlying26 hi hz1 g k cap _ hcut ⟨g, 0, none⟩ (es.length - (k + 1)) c (enS.flat (es.drop (k + 1))) hl (by rw [hnil]; intro j u hj; simp at hj) (en_one _) (by omega)
    rw [hsum] at hr ho
    rw [← hfl] at ho
    exact ⟨w1, hr, ho, hg⟩
set_option maxHeartbeats 4000000 in
set_option maxRecDepth 100000 in
theorem deleteEn_any (es : List En) (k B g cap : Nat) (w : World) (hown : w.ownsRow B 53 5 (.slice (some ⟨g, 0, none⟩) es.length cap) es.length (enS.flat es)) (hk : k < es.length) :
    Calls Try.prog 41 #[.slice (some ⟨g, 0, none⟩) es.length cap, .int .i64 k, .int .i64 ((k : Int) + 1)] w fun r w' => ∃ v', r = .returned v' ∧ w'.ownsRow B 53 5 v' (cutE es k).length (enS.flat (cutE es k)) ∧ w.grownBy w' (some g) := by
  have hcap := own_caps hown
  have Hln := Lib.hid (length_cutE hk)
  have hz2 : ¬ ((k : Int) = (k : Int) + 1) := by omega
  have hz3 : ((k : Int) == (k : Int) + 1) = false := beq_eq_false_iff_ne.2 (by omega)
  have hb0 : (0 : Int) ≤ (k : Int) := by omega
  have hb1 : (0 : Int) ≤ (k : Int) + 1 := by omega
  have hb2 : (k : Int) + 1 ≤ (es.length : Int) := by omega
  have hb3 : (k : Int) ≤ (es.length : Int) := by omega
  have hb4 : (k : Int) ≤ (cap : Int) := by omega
  have hb5 : (k : Int) + 1 ≤ (cap : Int) := by omega
  have hb6 : (es.length : Int) ≤ (cap : Int) := by omega
  have hb7 : k ≤ k + 1 := by omega
  have htn : ((k : Int) + 1).toNat = k + 1 := by omega
  have hn0 : ¬ (cap = es.length - 1) := by omega
  have hn1 : ((es.length - 1 : Nat) : Int) ≤ (es.length : Int) := by omega
  have hn2 : (0 : Int) ≤ ((es.length - 1 : Nat) : Int) := by omega
  have hn3 : es.length - (es.length - 1) = 1 := by omega
  by_cases hck : cap = k + 1
  · subst hck
    have hc1 : (k : Int) ≤ ((k + 1 : Nat) : Int) := by omega
    have hc2 : (k : Int) ≤ (k : Int) + 1 := by omega
    have hc3 : (es.length : Int) ≤ (k : Int) + 1 := by omega
    obtain ⟨w1, hr, ho, hg⟩ := deleteEn_core es k B g (k + 1) w hown hk (some ⟨g, 0, none⟩) (.inr ⟨by omega, rfl⟩) 0
    rw [show es.length - (k + 1) = 0 by omega] at hr
    have Ho := Lib.hid ho
    obtain ⟨zs, hzs, hom⟩ := own_more ho (show es.length - 1 + 1 ≤ _ by omega)
    rw [show es.length - 1 + 1 = es.length by omega] at hom
    obtain ⟨l, hcl⟩ := en_clear w1 hom (show es.length - 1 ≤ es.length by omega)
    have hlay := own_lay l w1 _ ((es.length - 1) * 5) hom
    have hct := own_cut hlay.1 (show es.length - 1 ≤ es.length by omega)
    rw [lay_take _ _ _ _ (Nat.le_refl _), List.take_append_of_le_length (by rw [ho.1]; exact Nat.le_refl _), List.take_of_length_le (by rw [ho.1]; exact Nat.le_refl _)] at hct
    have Hct := Lib.hid hct
    have Hg := Lib.hid (gthen2 (gthen2 (show w.grownBy w.drew (some g) from ⟨rfl, rfl, rfl, Nat.le_refl _, fun _ _ _ => rfl⟩) hg) hlay.2)
    have hcl2 : ∀ ty c, (Builtin.clear_ #[26] ty #[.slice (some ⟨g, (es.length - 1) * 5, none⟩) 1 c]).run Try.prog w1 = .ok (.tuple #[]) (w1.setCells g ((es.length - 1) * 5) l) := fun ty c => by have := hcl ty c; rwa [hn3] at this
    clear ho hom hlay hct hg hown hzs
    go_enter Try.func41, Try.ntmps41
    go_wp2
    go_region_law (refine step_append_runI rfl _ _ 26 26 rfl _ _ (by simp [Act.eval, Act.put]) (by simp [Act.eval, Act.put]) hr ?_)
    clear hr
    go_wp2
    go_ret
    exact ⟨_, rfl, by rw [show (cutE es k).length = es.length - 1 by have := Hln.out; omega]; exact Hct.out, Hg.out⟩
  · obtain ⟨w1, hr, ho, hg⟩ := deleteEn_core es k B g cap w hown hk (some ⟨g, (k + 1) * 5, none⟩) (.inl rfl) (cap - (k + 1))
    have Ho := Lib.hid ho
    obtain ⟨zs, hzs, hom⟩ := own_more ho (show es.length - 1 + 1 ≤ _ by omega)
    rw [show es.length - 1 + 1 = es.length by omega] at hom
    obtain ⟨l, hcl⟩ := en_clear w1 hom (show es.length - 1 ≤ es.length by omega)
    have hlay := own_lay l w1 _ ((es.length - 1) * 5) hom
    have hct := own_cut hlay.1 (show es.length - 1 ≤ es.length by omega)
    rw [lay_take _ _ _ _ (Nat.le_refl _), List.take_append_of_le_length (by rw [ho.1]; exact Nat.le_refl _), List.take_of_length_le (by rw [ho.1]; exact Nat.le_refl _)] at hct
    have Hct := Lib.hid hct
    have Hg := Lib.hid (gthen2 (gthen2 (show w.grownBy w.drew (some g) from ⟨rfl, rfl, rfl, Nat.le_refl _, fun _ _ _ => rfl⟩) hg) hlay.2)
    have hcl2 : ∀ ty c, (Builtin.clear_ #[26] ty #[.slice (some ⟨g, (es.length - 1) * 5, none⟩) 1 c]).run Try.prog w1 = .ok (.tuple #[]) (w1.setCells g ((es.length - 1) * 5) l) := fun ty c => by have := hcl ty c; rwa [hn3] at this
    clear ho hom hlay hct hg hown hzs
    go_enter Try.func41, Try.ntmps41
    go_wp2
    go_region_law (refine step_append_runI rfl _ _ 26 26 rfl _ _ (by simp [Act.eval, Act.put]) (by simp [Act.eval, Act.put]) hr ?_)
    clear hr
    go_wp2
    go_ret
    exact ⟨_, rfl, by rw [show (cutE es k).length = es.length - 1 by have := Hln.out; omega]; exact Hct.out, Hg.out⟩
end Go.Proofs.Ytemdhofkhppefaa
