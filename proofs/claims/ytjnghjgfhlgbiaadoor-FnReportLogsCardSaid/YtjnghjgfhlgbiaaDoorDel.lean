/- slices.IndexFunc and slices.DeleteFunc over reports, whatever closure over one captured cell. Conditions: none. -/
import Derived.Test.YtjnghjgfhlgbiaaDoorBy
import Derived.Test.YtjnghjgfhlgbiaaDoorFind
import Derived.Test.YtjnghjgfhlgbiaaDoorClone
import Derived.Shelf.Abstract
namespace Go.Proofs.YtjnghjgfhlgbiaaDoor
open Go Go.RowKit

def rpA (x : Rp) : Value := .agg #[.int .i64 x.tm, .int .i64 x.mc, .int .i64 x.a, .int .i64 x.b, .int .i64 x.lo, .int .i64 x.hi, .int .i64 x.to]
/-- A function value that says p of a report, whatever of the worlds of a class. -/
def Says (K : FuncId) (cp : Value) (p : Rp → Bool) (C : World → Prop) : Prop :=
  ∀ (W : World) (x : Rp), C W → Calls Tryd.prog K #[.agg #[.int .i64 x.tm, .int .i64 x.mc, .int .i64 x.a, .int .i64 x.b, .int .i64 x.lo, .int .i64 x.hi, .int .i64 x.to], cp] W fun r w' => r = .returned (.bool (p x)) ∧ Below W.heap.size W w'
def firstR (es : List Rp) (p : Rp → Bool) : Nat := lead (fun k => !p (rpS.get es k)) es.length 0

set_option maxRecDepth 8000 in
set_option maxHeartbeats 1600000 in
/-- The first place of a report with p, or -1. -/
theorem indexFunc_rp (K : FuncId) (cp : Value) (p : Rp → Bool) (eg : ∀ args w, (callFunc K args).run Tryd.prog w = .ok (.enter K args) w) (v : Value) (es : List Rp) (w : World) (h : Rd rpS w w.heap.size v es) (hK : Says K cp p (fun W => Below w.heap.size w W)) :
    Calls Tryd.prog 59 #[v, .func (Fn.func K) #[] #[cp]] w fun r w' =>
      (∃ q : Int, r = .returned (.int .i64 q) ∧ (firstR es p < es.length ∧ q = firstR es p ∨ firstR es p = es.length ∧ q = -1)) ∧ Below w.heap.size w w' := by
  obtain ⟨A, c, rfl, hcc, hm, hA⟩ := h
  unfold maxLen at hm
  have HK := Lib.hid hK; clear hK
  rcases Nat.eq_zero_or_pos es.length with h0 | h0
  · obtain rfl : es = [] := List.eq_nil_of_length_eq_zero h0
    clear hA
    go_enter Tryd.func59, Tryd.ntmps59
    go_wp2
    refine wp_loop_rounds 1 ?_
    rw [rounds_succ]
    go_wp2
    go_ret
    exact ⟨⟨_, rfl, .inr ⟨rfl, rfl⟩⟩, Below.refl _ _⟩
  · obtain ⟨g, off, rfl, hg, hcell⟩ := hA h0
    clear hA
    have hcell := rp_cells hcell
    go_enter Tryd.func59, Tryd.ntmps59
    go_wp2
    go_loopw [8] (fun i wr => ∃ k : Nat, k ≤ es.length ∧ i = .int .i64 k ∧ (∀ j, j < k → p (rpS.get es j) = false) ∧ Below w.heap.size w wr) (fun i _ => es.length - (intOf i).toNat)
    case atStart => exact ⟨0, Nat.zero_le _, rfl, by omega, Below.refl _ _⟩
    case round =>
      obtain ⟨k, hk, rfl, hok, hb⟩ := hrel
      have Hok := Lib.hid hok; clear hok
      by_cases hlt : k < es.length
      · obtain ⟨f0, f1, f2, f3, f4, f5, f6⟩ := hcell k hlt
        rw [← hb.cell (p := ⟨_, _, _⟩) hg] at f0 f1 f2 f3 f4 f5 f6
        have hbf : p (rpS.get es k) = p (rpS.get es k) := rfl
        generalize hx : rpS.get es k = x at f0 f1 f2 f3 f4 f5 f6 hbf
        have Hx := Lib.hid hx; clear hx hbf
        have hi0 : (0 : Int) ≤ (k : Int) := by omega
        have hi1 : (k : Int) < (es.length : Int) := by omega
        clear hcell
        cases hd : p x
        all_goals
          have Hd := Lib.hid hd
          go_wp2_with fail
          refine (HK.out _ x hb).mono ?_
          rintro e w1 ⟨rfl, hb1⟩
          rw [hd]
          clear hd
          go_wp2
        · go_roundw
          case rel => exact ⟨k + 1, by omega, by go_num, all_lt_succ Hok.out (by rw [Hx.out, Hd.out]), bthen hb hb1⟩
          case measure => simp [intOf]; omega
        · go_ret
          have : firstR es p = k := lead_eq _ _ _ hk (fun j hj => by rw [Hok.out j hj]; rfl) (fun _ => by rw [Hx.out, Hd.out]; rfl)
          exact ⟨⟨_, rfl, .inl ⟨by omega, by rw [this]⟩⟩, bthen hb hb1⟩
      · clear hcell
        go_wp2
        go_ret
        have : firstR es p = es.length := by
          rw [show es.length = k by omega]
          exact lead_eq _ _ _ (by omega) (fun j hj => by rw [Hok.out j hj]; rfl) (fun h => absurd h (by omega))
        exact ⟨⟨_, rfl, .inr ⟨this, rfl⟩⟩, hb⟩
theorem zero_rp (w : World) : (zeroValue 30).run Tryd.prog w = .ok (.agg #[.int .i64 0, .int .i64 0, .int .i64 0, .int .i64 0, .int .i64 0, .int .i64 0, .int .i64 0]) w := by
  obtain ⟨i0, hi, hz0, hz1, hz2⟩ := info_parts infoRp2
  simp [zeroValue, typeInfo, hi, hz0]
theorem rp_clear (w : World) {B g n cap i : Nat} {xs : List Value} (h : w.ownsRow B 30 7 (.slice (some ⟨g, 0, none⟩) n cap) n xs) (hi : i ≤ n) :
    ∃ l, ∀ ty c, (Builtin.clear_ #[24] ty #[.slice (some ⟨g, i * 7, none⟩) (n - i) c]).run Tryd.prog w = .ok (.tuple #[]) (w.setCells g (i * 7) l) :=
  ⟨_, fun ty c => run_clear_row (P := Tryd.prog) (z := .agg #[.int .i64 0, .int .i64 0, .int .i64 0, .int .i64 0, .int .i64 0, .int .i64 0, .int .i64 0]) Tryd.underlying24 zero_rp
    (zeroCells_one (by
      intro j hj
      match j, hj with
      | 0, _ => rfl
      | 1, _ => rfl
      | 2, _ => rfl
      | 3, _ => rfl
      | 4, _ => rfl
      | 5, _ => rfl
      | 6, _ => rfl) (by decide) _)
    (by intro m; simp [Builtin.zeroCells, Value.cells]) h hi ty c⟩

theorem firstR_spec (es : List Rp) (p : Rp → Bool) : firstR es p ≤ es.length ∧ (∀ j, j < firstR es p → p (rpS.get es j) = false) ∧ (firstR es p < es.length → p (rpS.get es (firstR es p)) = true) := by
  obtain ⟨h1, h2, h3, h4⟩ := lead_spec (fun k => !p (rpS.get es k)) es.length 0
  refine ⟨by unfold firstR; omega, fun j hj => by simpa using h3 j (Nat.zero_le _) hj, fun h => ?_⟩
  have := h4 (by unfold firstR at h; omega)
  simpa [firstR] using this
theorem take_filter_all {p : Rp → Bool} {es : List Rp} : ∀ k, k ≤ es.length → (∀ j, j < k → p (rpS.get es j) = false) → rpF (fun x => !p x) es k = es.take k
  | 0, _, _ => by simp [rpF]
  | k + 1, hk, h => by
    have ih := take_filter_all k (by omega) (fun j hj => h j (by omega))
    rw [rpF_yes (by omega) (by rw [h k (by omega)]; rfl), ih, rp_take (by omega)]

set_option maxRecDepth 8000 in
set_option maxHeartbeats 4000000 in
theorem delF_any (K : FuncId) (cp : Value) (p : Rp → Bool) (eg : ∀ args w, (callFunc K args).run Tryd.prog w = .ok (.enter K args) w) (v : Value) (es : List Rp) (B : Nat) (w : World) (hown : w.ownsRow B 30 7 v es.length (rpS.flat es)) (hlen : es.length ≤ 1048576) (hK : Says K cp p (fun W => w.grownBy W v.ownBlock)) :
    Calls Tryd.prog 36 #[v, .func (Fn.func K) #[] #[cp]] w fun r w' =>
      ∃ v', r = .returned v' ∧ w'.ownsRow B 30 7 v' (es.filter (fun x => !p x)).length (rpS.flat (es.filter (fun x => !p x))) ∧ w.grownBy w' v.ownBlock := by
  have hrd : Rd rpS w w.heap.size v es := Rd.of_own hown rfl
  have HI := Lib.hid (indexFunc_rp K cp p eg v es w hrd (fun W x hW => hK W x (gof hW)))
  have HK := Lib.hid hK; clear hK
  obtain ⟨hf1, hf2, hf3⟩ := firstR_spec es p
  have Hown := Lib.hid hown
  obtain ⟨n, hn⟩ : ∃ n, n = es.length := ⟨_, rfl⟩
  by_cases hall : firstR es p = es.length
  · have hfil : es.filter (fun x => !p x) = es := by
      rw [← rpF_all, take_filter_all _ (Nat.le_refl _) (by rw [hall] at hf2; exact hf2), List.take_length]
    rw [hfil]
    clear hfil hn hf2 hf3 hrd hown
    have Hall := Lib.hid hall; clear hall
    go_enter Tryd.func36, Tryd.ntmps36
    go_wp2_with fail
    refine HI.out.mono ?_
    rintro e w1 ⟨⟨q, rfl, hq⟩, hb1⟩
    have hq1 : q = -1 := by
      rcases hq with ⟨h1, -⟩ | ⟨-, h2⟩
      · have := Hall.out; omega
      · exact h2
    subst hq1
    go_wp2
    go_ret
    exact ⟨_, rfl, own_below Hown.out hb1, gof hb1⟩
  · have hpos : 0 < es.length := by omega
    obtain ⟨g, cap, rfl⟩ : ∃ g cap, v = .slice (some ⟨g, 0, none⟩) es.length cap := by
      rcases hown.2 with ⟨-, h0⟩ | ⟨g, cap, cur, h1, -⟩
      · omega
      · exact ⟨g, cap, h1⟩
    have hob : (Value.slice (some ⟨g, 0, none⟩) es.length cap).ownBlock = some g := rfl
    rw [hob] at HK ⊢
    have hncap : es.length ≤ cap ∧ cap ≤ 9223372036854775807 := by
      rcases hown.2 with ⟨h', _⟩ | ⟨g', cap', cur, h', hb, hg, hnc, hcm, hcs, htake⟩
      · simp at h'
      · simp only [Value.slice.injEq, Option.some.injEq, Addr.mk.injEq, and_true, true_and] at h'
        obtain ⟨rfl, rfl⟩ := h'
        exact ⟨hnc, by unfold maxLen at hcm; omega⟩
    have hkeep : rpF (fun x => !p x) es (firstR es p) = es.take (firstR es p) := take_filter_all _ hf1 hf2
    have hdrop := hf3 (by omega)
    generalize hk0 : firstR es p = k0 at *
    have Hk0 := Lib.hid hk0
    have Hkeep := Lib.hid hkeep
    have Hdrop := Lib.hid hdrop
    clear hk0 hkeep hdrop hob hf2 hf3 hrd hown hn
    have hk1 : k0 < es.length := by omega
    clear hall hf1
    go_enter Tryd.func36, Tryd.ntmps36
    go_wp2_with fail
    refine HI.out.mono ?_
    rintro e w1 ⟨⟨q, rfl, hq⟩, hb1⟩
    have hq1 : q = (k0 : Int) := by
      have := Hk0.out
      rcases hq with ⟨-, h2⟩ | ⟨h1, -⟩ <;> omega
    subst hq1
    clear hq
    have hne1 : ((k0 : Int) == -1) = false := beq_eq_false_iff_ne.2 (by omega)
    go_wp2
    go_loopw [5, 6, 7] (fun s5 s6 _ wr => ∃ (i j : Nat) (ys : List Rp), s5 = .int .i64 i ∧ s6 = .int .i64 j ∧ i < j ∧ j ≤ es.length ∧ ys.length = es.length ∧ Hid (ys.take i = rpF (fun x => !p x) es j) ∧ Hid (ys.drop j = es.drop j) ∧ wr.ownsRow B 30 7 (.slice (some ⟨g, 0, none⟩) es.length cap) es.length (rpS.flat ys) ∧ w.grownBy wr (some g)) (fun _ s6 _ _ => es.length - (intOf s6).toNat)
    case atStart => exact ⟨k0, k0 + 1, es, rfl, by go_num, by omega, by omega, rfl, Lib.hid (by rw [rpF_no hk1 (by rw [Hdrop.out]; rfl), Hkeep.out]), Lib.hid rfl, own_below Hown.out hb1, gof hb1⟩
    case round =>
      obtain ⟨i, j, ys, rfl, rfl, hij, hjn, hyl, Hyt, Hyd, hown, hgw⟩ := hrel
      by_cases hlt : j < es.length
      · obtain ⟨f0, f1, f2, f3, f4, f5, f6⟩ := own_rp hown hyl hlt
        rw [get_dropRp Hyd.out] at f0 f1 f2 f3 f4 f5 f6
        have Hown := Lib.hid hown; clear hown
        have hgr : g < wr.heap.size := (own_base Hown.out).2
        generalize hx : rpS.get es j = x at f0 f1 f2 f3 f4 f5 f6
        have Hx := Lib.hid hx; clear hx
        have hi0 : (0 : Int) ≤ (j : Int) := by omega
        have hi1 : (j : Int) < (es.length : Int) := by omega
        have hbA : Below wr.heap.size wr (wr.alloc (Obj.cells #[.int .i64 x.tm, .int .i64 x.mc, .int .i64 x.a, .int .i64 x.b, .int .i64 x.lo, .int .i64 x.hi, .int .i64 x.to] 30)) := bal (Below.refl _ _) _
        have hbox := Blk.new wr 30 #[.int .i64 x.tm, .int .i64 x.mc, .int .i64 x.a, .int .i64 x.b, .int .i64 x.lo, .int .i64 x.hi, .int .i64 x.to]
        have Hcall := Lib.hid (HK.out _ x (gthen hgw hbA))
        have HbA := Lib.hid hbA; clear hbA
        have Hbox := Lib.hid hbox; clear hbox
        have Hgw := Lib.hid hgw; clear hgw
        cases hd : p x
        all_goals
          have Hd := Lib.hid hd
          go_wp2_with fail
          refine Hcall.out.mono ?_
          rintro e w2 ⟨rfl, hb2⟩
          have Hb2 := Lib.hid hb2
          have hown2 := Lib.hid (own_below Hown.out (bthen HbA.out hb2))
          rw [hd]
          clear hd
        · have hg2 : g < w2.heap.size := (own_base hown2.out).2
          have hbox2 := Hbox.out.on hb2
          have b0 := hbox2.cell 0
          have b1 := hbox2.cell 1
          have b2 := hbox2.cell 2
          have b3 := hbox2.cell 3
          have b4 := hbox2.cell 4
          have b5 := hbox2.cell 5
          have b6 := hbox2.cell 6
          have bl := hbox2.lt
          obtain ⟨g0, g1, g2, g3, g4, g5, g6⟩ := own_rp hown2.out hyl (show i < es.length by omega)
          generalize rpS.get ys i = old at g0 g1 g2 g3 g4 g5 g6
          have z0 := hown2.out.frozenAt (i * 7)
          have z1 := hown2.out.frozenAt (i * 7 + 1)
          have z2 := hown2.out.frozenAt (i * 7 + 2)
          have z3 := hown2.out.frozenAt (i * 7 + 3)
          have z4 := hown2.out.frozenAt (i * 7 + 4)
          have z5 := hown2.out.frozenAt (i * 7 + 5)
          have z6 := hown2.out.frozenAt (i * 7 + 6)
          have hi2 : (0 : Int) ≤ (i : Int) := by omega
          have hi3 : (i : Int) < (es.length : Int) := by omega
          clear hbox2 hb2 f0 f1 f2 f3 f4 f5 f6
          go_wp2
          go_roundw
          case rel =>
            have hl := own_lay (rpS.cells x) _ _ (i * 7) hown2.out
            rw [putRp] at hl
            have hfl : lay (rpS.flat ys) (i * 7) (rpS.cells x) = rpS.flat (ys.set i x) := by
              rcases lay_flat (S := rpS) ys i x with h | h
              · exact h
              · omega
            rw [hfl] at hl
            refine ⟨i + 1, j + 1, ys.set i x, by go_num, by go_num, by omega, by omega, by rw [List.length_set]; exact hyl, Lib.hid ?_, Lib.hid ?_, hl.1, gthen2 (gthen (gthen Hgw.out HbA.out) Hb2.out) hl.2⟩
            · rw [List.take_add_one, List.take_set_of_le (Nat.le_refl _), Hyt.out, rpF_yes hlt (by rw [Hx.out, Hd.out]; rfl), Hx.out]
              simp [show i < ys.length by omega]
            · rw [List.drop_set_of_lt (by omega)]
              have := congrArg (List.drop 1) Hyd.out
              rw [List.drop_drop, List.drop_drop] at this
              exact this
          case measure => simp [intOf]; omega
        · clear hb2
          go_wp2
          go_roundw
          case rel =>
            refine ⟨i, j + 1, ys, rfl, by go_num, by omega, by omega, hyl, Lib.hid ?_, Lib.hid ?_, hown2.out, gthen (gthen Hgw.out HbA.out) Hb2.out⟩
            · rw [Hyt.out, rpF_no hlt (by rw [Hx.out, Hd.out]; rfl)]
            · have := congrArg (List.drop 1) Hyd.out
              rw [List.drop_drop, List.drop_drop] at this
              exact this
          case measure => simp [intOf]; omega
      · obtain rfl : j = es.length := by omega
        obtain ⟨l, hcl⟩ := rp_clear wr hown (Nat.le_of_lt hij)
        have hlay := own_lay l wr _ (i * 7) hown
        have hcut := own_cut hlay.1 (Nat.le_of_lt hij)
        rw [lay_take _ _ _ _ (Nat.le_refl _), show i * 7 = i * rpS.size from rfl, flat_take, Hyt.out, rpF_all] at hcut
        have hli : (es.filter (fun x => !p x)).length = i := by
          rw [← rpF_all, ← Hyt.out, List.length_take]; omega
        have Hcut := Lib.hid hcut
        have Hg := Lib.hid (gthen2 hgw hlay.2)
        have Hli := Lib.hid hli
        have hi2 : (0 : Int) ≤ (i : Int) := by omega
        have hi3 : (i : Int) ≤ (es.length : Int) := by omega
        clear hcut hlay hown hgw hli
        go_wp2
        go_ret
        exact ⟨_, rfl, by rw [Hli.out]; exact Hcut.out, Hg.out⟩
end Go.Proofs.YtjnghjgfhlgbiaaDoor
