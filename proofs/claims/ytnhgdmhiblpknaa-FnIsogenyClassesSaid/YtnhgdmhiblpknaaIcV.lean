/- All neighbours of a curve: the reference's icAll. Conditions: a valid curve. Printed by gen_icv.py. -/
import Derived.Test.YtnhgdmhiblpknaaIcU
namespace Go.Proofs.Ytnhgdmhiblpknaa
open Go Go.RowKit

theorem own_formI {w : World} {b : Nat} {t : TypeId} {z : Nat} {v : Value} {n : Nat} {xs : List Value} (h : w.ownsRow b t z v n xs) : ∃ A c, v = .slice A n c := by
  rcases h.2 with ⟨h', h0⟩ | ⟨g', cap', cur, h', _⟩
  · exact ⟨none, 0, by rw [h', h0]⟩
  · exact ⟨_, _, h'⟩
/-- The k-th cell of an own row of ints. -/
theorem own_intI {w : World} {b : Nat} {t : TypeId} {A : Option Addr} {n c : Nat} {xs : List Int} (h : w.ownsRow b t 1 (.slice A n c) n (xs.map (Value.int .i64))) (hn : n = xs.length) (k : Nat) (hk : k < n) :
    ∃ g, A = some ⟨g, 0, none⟩ ∧ g < w.heap.size ∧ w.cell? ⟨g, k, none⟩ = some (.int .i64 (xs[k]'(hn ▸ hk))) := by
  rcases h.2 with ⟨h', h0⟩ | ⟨g, cap, cur, h', h1, h2, h3, h4, h5, h6⟩
  · omega
  · cases h'
    refine ⟨g, rfl, (Array.getElem?_eq_some_iff.1 h2).1, ?_⟩
    have hcell := h.cellAt k (by omega)
    rw [hcell, List.getElem?_map, List.getElem?_eq_getElem (hn ▸ hk)]
    rfl
set_option maxRecDepth 8000 in
set_option maxHeartbeats 8000000 in
theorem icAll_any (a b : Int) (w : World) (hc : curveB a b = true) :
    Calls Try.prog 33 #[.agg #[.int .i64 a, .int .i64 b]] w fun r w' => (∃ v : Value, r = .returned (.tuple #[v, .bool (allV a b).2]) ∧ w'.ownsRow w.heap.size 37 2 v (allV a b).1.length (cuS.flat (allV a b).1)) ∧ Below w.heap.size w w' := by
  have Hc := Lib.hid hc; clear hc
  have HbA := Lib.hid (show Below w.heap.size w (w.alloc (Obj.cells #[.int .i64 a, .int .i64 b] 37)) from bal (Below.refl _ _) _)
  have HB := Lib.hid (Blk.new w 37 #[.int .i64 a, .int .i64 b])
  go_enter Try.func33, Try.ntmps33
  go_wp2_with fail
  refine (ecRoots_any a b _ Hc.out).mono ?_
  rintro e W ⟨⟨v, rfl, hrow⟩, hb1⟩
  have HbW := Lib.hid (bthen HbA.out hb1)
  have HBW := Lib.hid (HB.out.on hb1)
  clear hb1
  have Hyes := Lib.hid (fun l h => allV_yes (a := a) (b := b) (l := l) h)
  have Hno := Lib.hid (fun h => allV_no (a := a) (b := b) h)
  have Hbd := Lib.hid (fun e (he : e ∈ rootsV a b) => root_bd he)
  have Hev := Lib.hid (fun e (he : e ∈ rootsV a b) => root_ev he)
  have hrl : (rootsV a b).length ≤ 201 := rootsF_len a b (-100) 201
  generalize rootsV a b = rs at hrow Hyes Hno Hbd Hev hrl
  obtain ⟨A, c, rfl⟩ := own_formI hrow
  have Hrow := Lib.hid hrow; clear hrow
  go_wp2
  go_loopw [12, 4] (fun i o wr => ∃ (k : Nat) (l : List Cu), k ≤ rs.length ∧ i = .int .i64 k ∧ Hid (nbsF a b (rs.take k) = some l) ∧ Hid (wr.ownsRow W.heap.size 37 2 o (setC l).length (cuS.flat (setC l))) ∧ Hid (Below W.heap.size W wr)) (fun i _ _ => rs.length - (intOf i).toNat)
  case atStart => exact ⟨0, [], Nat.zero_le _, rfl, Lib.hid rfl, Lib.hid ⟨rfl, Or.inl ⟨rfl, rfl⟩⟩, Lib.hid (Below.refl _ _)⟩
  case round =>
    obtain ⟨k, l, hk, rfl, Hl, Hown, Hb⟩ := hrel
    have HBr := Lib.hid (HBW.out.on Hb.out)
    have q0 : wr.cell? ⟨w.heap.size, 0, none⟩ = some (.int .i64 a) := HBr.out.cell 0
    have q1 : wr.cell? ⟨w.heap.size, 1, none⟩ = some (.int .i64 b) := HBr.out.cell 1
    have ql := HBr.out.lt
    by_cases hlt : k < rs.length
    · obtain ⟨g, rfl, hg, f0⟩ := own_intI Hrow.out rfl k hlt
      rw [← Hb.out.cell (p := ⟨_, _, _⟩) hg] at f0
      have hgr : g < wr.heap.size := Nat.lt_of_lt_of_le hg Hb.out.size
      have hi0 : (0 : Int) ≤ (k : Int) := by omega
      have hi1 : (k : Int) < (rs.length : Int) := by omega
      have Htk := Lib.hid (nbsF_take (a := a) (b := b) hlt)
      have Hbad := Lib.hid (nbsF_no (a := a) (b := b) hlt)
      have Hb1 := Lib.hid (Hbd.out _ (List.getElem_mem hlt))
      have He1 := Lib.hid (Hev.out _ (List.getElem_mem hlt))
      generalize rs[k] = e at f0 Htk Hbad Hb1 He1
      go_wp2_with fail
      refine (nbS_any a b e _ Hc.out He1.out Hb1.out).mono ?_
      rintro r w3 ⟨hr, hb3⟩
      have Hb3 := Lib.hid (bthen Hb.out hb3)
      have Hown3 := Lib.hid (own_below Hown.out hb3)
      have HB3 := Lib.hid (HBr.out.on hb3)
      clear hb3 q0 q1 ql f0 hgr
      cases hn : nbV a b e with
      | none =>
        rw [hn] at hr
        have hr2 : r = .returned (.tuple #[.agg #[.int .i64 0, .int .i64 0], .bool false]) := hr
        subst hr2
        have Hfin := Lib.hid (Hno.out (Hbad.out hn))
        clear hr hn
        go_wp2
        go_ret2
        exact ⟨⟨_, by rw [Hfin.out]; rfl, by rw [Hfin.out]; exact ⟨rfl, Or.inl ⟨rfl, rfl⟩⟩⟩, bthen HbW.out (bal Hb3.out _)⟩
      | some d =>
        rw [hn] at hr
        have hr2 : r = .returned (.tuple #[.agg #[.int .i64 d.a, .int .i64 d.b], .bool true]) := hr
        subst hr2
        have Hn := Lib.hid (show nbsF a b (rs.take (k + 1)) = some (l ++ [d]) by rw [Htk.out, Hl.out, hn])
        have hll : (setC l).length ≤ 1000 := by
          have h1 := setC_len l
          have h2 := nbsF_len Hl.out
          rw [List.length_take] at h2
          omega
        clear hr hn
        have Hb4 := Lib.hid (bal Hb3.out (Obj.cells #[.int .i64 d.a, .int .i64 d.b] 37))
        have Hown4 := Lib.hid (own_below Hown3.out (bal (Below.refl _ _) (Obj.cells #[.int .i64 d.a, .int .i64 d.b] 37)))
        go_wp2_with fail
        refine (icPut_any W.heap.size _ (setC l) d _ Hown4.out Hb4.out.size hll).mono ?_
        rintro r w5 ⟨⟨v5, rfl, hown5⟩, hb5⟩
        have Hb5 := Lib.hid (bthen Hb4.out hb5)
        have Hown5 := Lib.hid (show w5.ownsRow W.heap.size 37 2 v5 (setC (l ++ [d])).length (cuS.flat (setC (l ++ [d]))) by rw [setC_snoc]; exact hown5)
        clear hb5 hown5
        go_wp2
        go_roundw
        case rel => exact ⟨k + 1, l ++ [d], by omega, by go_num, Hn, Hown5, Hb5⟩
        case measure => simp [intOf]; omega
    · obtain rfl : k = rs.length := by omega
      have Hfin := Lib.hid (Hyes.out l (by have := Hl.out; rwa [List.take_length] at this))
      go_wp2
      go_ret2
      exact ⟨⟨_, by rw [Hfin.out]; rfl, by rw [Hfin.out]; exact own_mono Hown.out HbW.out.size⟩, bthen HbW.out Hb.out⟩
end Go.Proofs.Ytnhgdmhiblpknaa
