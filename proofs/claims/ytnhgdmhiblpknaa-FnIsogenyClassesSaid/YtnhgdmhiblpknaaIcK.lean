/- The search over neighbours: the walks of both sides. Conditions: a valid curve. Printed by gen_ick.py. -/
import Derived.Test.YtnhgdmhiblpknaaIcB
import Derived.Test.YtnhgdmhiblpknaaIcE
namespace Go.Proofs.Ytnhgdmhiblpknaa
open Go Go.RowKit

def fsT (T : List (Cu × Int)) : List Cu := T.map Prod.fst
def snT (T : List (Cu × Int)) : List Value := T.map (fun q => Value.int .i64 q.2)
theorem fsT_len (T : List (Cu × Int)) : (fsT T).length = T.length := List.length_map ..
theorem snT_len (T : List (Cu × Int)) : (snT T).length = T.length := List.length_map ..
theorem snT_cell {w : World} {b : Nat} {t : TypeId} {A : Option Addr} {n c : Nat} {T : List (Cu × Int)} (h : w.ownsRow b t 1 (.slice A n c) n (snT T)) (hn : n = T.length) (k : Nat) (hk : k < T.length) :
    ∃ g, A = some ⟨g, 0, none⟩ ∧ g < w.heap.size ∧ w.cell? ⟨g, k, none⟩ = some (.int .i64 T[k].2) := by
  rcases h.2 with ⟨h', h0⟩ | ⟨g, cap, cur, h', h1, h2, h3, h4, h5, h6⟩
  · omega
  · cases h'
    refine ⟨g, rfl, (Array.getElem?_eq_some_iff.1 h2).1, ?_⟩
    have hcell := h.cellAt k (by omega)
    rw [hcell]
    unfold snT
    rw [List.getElem?_map, List.getElem?_eq_getElem hk]
    rfl
theorem fsT_cell {w : World} {b : Nat} {t : TypeId} {A : Option Addr} {n c : Nat} {T : List (Cu × Int)} (h : w.ownsRow b t 2 (.slice A n c) n (cuS.flat (fsT T))) (hn : n = T.length) (k : Nat) (hk : k < T.length) :
    ∃ g, A = some ⟨g, 0, none⟩ ∧ g < w.heap.size ∧ w.cell? ⟨g, k * 2, none⟩ = some (.int .i64 T[k].1.a) ∧ w.cell? ⟨g, k * 2 + 1, none⟩ = some (.int .i64 T[k].1.b) := by
  have hr := Rd.of_own (S := cuS) h (by rw [fsT_len]; exact hn)
  obtain ⟨A', c', hv, hc1, hc2, hA⟩ := hr
  rcases h.2 with ⟨h', h0⟩ | ⟨g, cap, cur, h', h1, h2, h3, h4, h5, h6⟩
  · omega
  · cases h'
    refine ⟨g, rfl, (Array.getElem?_eq_some_iff.1 h2).1, ?_⟩
    obtain ⟨g', off, hA', hg', hcell⟩ := hA (by rw [fsT_len]; omega)
    cases hv
    simp only [Option.some.injEq, Addr.mk.injEq, and_true] at hA'
    obtain ⟨rfl, rfl⟩ := hA'
    obtain ⟨f0, f1⟩ := cu_cells hcell k (by rw [fsT_len]; exact hk)
    have e : cuS.get (fsT T) k = T[k].1 := by
      rw [getCu (by rw [fsT_len]; exact hk)]
      unfold fsT
      rw [List.getElem_map]
    rw [e, Nat.zero_add] at f0 f1
    exact ⟨f0, f1⟩
/-- What the search hands back. -/
def ClsR (B : Nat) (o : Option (List (Cu × Int))) (r : Ending) (w' : World) : Prop := match o with
  | none => r = .returned (.tuple #[.slice none 0 0, .slice none 0 0, .bool false])
  | some T => ∃ v u : Value, r = .returned (.tuple #[v, u, .bool true]) ∧ w'.ownsRow B 37 2 v T.length (cuS.flat (fsT T)) ∧ w'.ownsRow B 3 1 u T.length (snT T)
theorem addT_in (s : Int) (T : List (Cu × Int)) (l : List Cu) (k : Nat) (hk : k < T.length) : ∃ h : k < (addT s l T).length, (addT s l T)[k] = T[k] := by
  obtain ⟨R, hR⟩ := addT_grow s l T
  refine ⟨by rw [hR, List.length_append]; omega, ?_⟩
  have : (addT s l T)[k]? = T[k]? := by rw [hR, List.getElem?_append_left hk]
  rw [List.getElem?_eq_getElem (by rw [hR, List.length_append]; omega), List.getElem?_eq_getElem hk] at this
  exact Option.some.inj this
theorem addT_len (s : Int) : ∀ (l : List Cu) (T : List (Cu × Int)), (addT s l T).length ≤ T.length + l.length
  | [], T => by simp [addT]
  | d :: l, T => by
    unfold addT
    split
    · have := addT_len s l T; simp; omega
    · have := addT_len s l (T ++ [(d, s)]); simp at *; omega
theorem addT_bd {s : Int} {n : Int} : ∀ (l : List Cu) (T : List (Cu × Int)), (∀ q ∈ T, 0 ≤ q.2 ∧ q.2 ≤ n) → 0 ≤ s → s ≤ n → ∀ q ∈ addT s l T, 0 ≤ q.2 ∧ q.2 ≤ n
  | [], T, h, _, _ => by unfold addT; exact h
  | d :: l, T, h, h1, h2 => by
    unfold addT
    split
    · exact addT_bd l T h h1 h2
    · refine addT_bd l _ (fun q hq => ?_) h1 h2
      rw [List.mem_append, List.mem_singleton] at hq
      rcases hq with hq | rfl
      · exact h q hq
      · exact ⟨h1, h2⟩
theorem addT_take {s : Int} {l : List Cu} {T : List (Cu × Int)} {j : Nat} (hj : j < l.length) : addT s (l.take (j + 1)) T = if cuS.get l j ∈ fsT (addT s (l.take j) T) then addT s (l.take j) T else addT s (l.take j) T ++ [(cuS.get l j, s)] := by
  rw [List.take_succ_eq_append_getElem hj, addT_snoc, getCu hj]; rfl
set_option maxRecDepth 8000 in
set_option maxHeartbeats 16000000 in
theorem clsI_any (a b : Int) (w : World) (hc : curveB a b = true) :
    Calls Try.prog 46 #[.agg #[.int .i64 a, .int .i64 b]] w fun r w' => ClsR w.heap.size (clsV a b) r w' ∧ Below w.heap.size w w' := by
  obtain ⟨i0, hi, hz0, hz1, hz2⟩ := info_parts infoCuI
  obtain ⟨j0, ji, jz0, jz1, jz2⟩ := info_parts infoIntC
  have Hc := Lib.hid hc; clear hc
  have HbA := Lib.hid (show Below w.heap.size w (w.alloc (Obj.cells #[.int .i64 a, .int .i64 b] 37)) from bal (Below.refl _ _) _)
  obtain ⟨V, hV⟩ : ∃ V, clsV a b = V := ⟨_, rfl⟩
  have HV := Lib.hid (show V = bfs 9 0 [(smC a b, 0)] from hV.symm)
  rw [hV]
  clear hV
  go_enter Try.func46, Try.ntmps46
  go_wp2_with fail
  refine (smallest_any a b _ Hc.out).mono ?_
  rintro e w1 ⟨rfl, hb1⟩
  have Hstart := Lib.hid (Srch.start (gdC_sm Hc.out))
  generalize smC a b = m at Hstart HV ⊢
  have HbW := Lib.hid (bal (bthen HbA.out hb1) (Obj.cells #[.int .i64 m.a, .int .i64 m.b] 37))
  clear hb1
  go_wp2
  have Hl7 : Hid ((((w1.alloc (Obj.cells #[.int .i64 m.a, .int .i64 m.b] 37)).alloc (Obj.cells #[.int .i64 m.a, .int .i64 m.b] 37)).alloc (Obj.cells #[.int .i64 0] 3)).ownsRow (w1.heap.size + 1) 37 2 (.slice (some ⟨w1.heap.size + 1, 0, none⟩) 1 1) 1 (cuS.flat (fsT [(m, 0)]))) := Lib.hid (World.ownsRow.alloc (by have h := World.ownsRow_lit (e := 37) (size := 2) (base := w1.heap.size + 1) (w1.alloc (Obj.cells #[.int .i64 m.a, .int .i64 m.b] 37)) #[.int .i64 m.a, .int .i64 m.b] 1 (by simp) (by unfold maxLen; omega) (by simp); rw [World.size_alloc] at h; exact h) _)
  have Hl8 : Hid ((((w1.alloc (Obj.cells #[.int .i64 m.a, .int .i64 m.b] 37)).alloc (Obj.cells #[.int .i64 m.a, .int .i64 m.b] 37)).alloc (Obj.cells #[.int .i64 0] 3)).ownsRow (w1.heap.size + 1) 3 1 (.slice (some ⟨w1.heap.size + 1 + 1, 0, none⟩) 1 1) 1 (snT [(m, 0)])) := Lib.hid (by have h := World.ownsRow_lit (e := 3) (size := 1) (base := w1.heap.size + 1) ((w1.alloc (Obj.cells #[.int .i64 m.a, .int .i64 m.b] 37)).alloc (Obj.cells #[.int .i64 m.a, .int .i64 m.b] 37)) #[.int .i64 0] 1 (by simp) (by unfold maxLen; omega) (by simp); rw [World.size_alloc, World.size_alloc] at h; exact h)
  have Hb0 := Lib.hid (bal (bal (Below.refl _ (w1.alloc (Obj.cells #[.int .i64 m.a, .int .i64 m.b] 37))) (Obj.cells #[.int .i64 m.a, .int .i64 m.b] 37)) (Obj.cells #[.int .i64 0] 3))
  have Hsz0 := Lib.hid (World.size_alloc w1 (Obj.cells #[.int .i64 m.a, .int .i64 m.b] 37))
  generalize ((w1.alloc (Obj.cells #[.int .i64 m.a, .int .i64 m.b] 37)).alloc (Obj.cells #[.int .i64 m.a, .int .i64 m.b] 37)).alloc (Obj.cells #[.int .i64 0] 3) = W2 at Hl7 Hl8 Hb0 ⊢
  generalize w1.alloc (Obj.cells #[.int .i64 m.a, .int .i64 m.b] 37) = W at HbW Hb0 Hsz0
  rw [← Hsz0.out] at Hl7 Hl8 ⊢
  go_loopw [9, 7, 8] (fun i o7 o8 wr => ∃ (k : Nat) (T : List (Cu × Int)), k ≤ T.length ∧ T.length ≤ 8 ∧ i = .int .i64 k ∧ Hid (Srch m k T) ∧ Hid (bfs (9 - k) k T = V) ∧ Hid (∀ q ∈ T, 0 ≤ q.2 ∧ q.2 ≤ (k : Int)) ∧ Hid (wr.ownsRow W.heap.size 37 2 o7 T.length (cuS.flat (fsT T))) ∧ Hid (wr.ownsRow W.heap.size 3 1 o8 T.length (snT T)) ∧ Hid (∀ g, o7.ownBlock = some g → o8.ownBlock ≠ some g) ∧ Hid (Below W.heap.size W wr)) (fun i _ _ _ => 9 - (intOf i).toNat)
  case atStart => exact ⟨0, [(m, 0)], by simp, by simp, rfl, Hstart, Lib.hid HV.out.symm, Lib.hid (by intro q hq; rw [List.mem_singleton] at hq; subst hq; simp), Hl7, Hl8, Lib.hid (by intro g h1 h2; simp [Value.ownBlock] at h1 h2; omega), Hb0⟩
  case round =>
    obtain ⟨k, T, hk, hT8, rfl, Hsr, Hbf, Hbd, H7, H8, Hap, Hb⟩ := hrel
    obtain ⟨A7, c7, hv7⟩ := own_formI H7.out; subst hv7
    obtain ⟨A8, c8, hv8⟩ := own_formI H8.out; subst hv8
    by_cases hlt : k < T.length
    · obtain ⟨g7, rfl, hg7, f0, f1⟩ := fsT_cell H7.out rfl k hlt
      have hi0 : (0 : Int) ≤ (k : Int) := by omega
      have hi1 : (k : Int) < (T.length : Int) := by omega
      have Hgd := Lib.hid (Hsr.out.gd _ (List.getElem_mem hlt))
      have Hbk := Lib.hid (Hbd.out _ (List.getElem_mem hlt))
      have Hin := Lib.hid (fun s l => addT_in s T l k hlt)
      have Hst := Lib.hid (fun (ho : (alC T[k].1).2 = true) (hl : (addT (T[k].2 + 1) (alC T[k].1).1 T).length ≤ 8) => (show bfs (9 - k) k T = bfs (9 - (k + 1)) (k + 1) (addT (T[k].2 + 1) (alC T[k].1).1 T) from by rw [show 9 - k = (9 - (k + 1)) + 1 by omega]; exact bfs_step hlt ho hl))
      have Hbad := Lib.hid (fun (ho : (alC T[k].1).2 = false) => (show bfs (9 - k) k T = none from by rw [show 9 - k = (9 - (k + 1)) + 1 by omega]; exact bfs_bad hlt ho))
      have Hlong := Lib.hid (fun (hl : 8 < (addT (T[k].2 + 1) (alC T[k].1).1 T).length) => (show bfs (9 - k) k T = none from by rw [show 9 - k = (9 - (k + 1)) + 1 by omega]; exact bfs_long hlt hl))
      have Hnx := Lib.hid (fun ho => Hsr.out.next hlt ho)
      generalize hq : T[k] = q at f0 f1 Hgd Hbk Hin Hst Hbad Hlong Hnx
      have Hq := Lib.hid hq; clear hq
      go_wp2_with fail
      refine (twoNb_any q.1.a q.1.b _ Hgd.out.1.1).mono ?_; rintro e w3 ⟨⟨v3, rfl, hown3⟩, hb3⟩
      have hal : alC q.1 = allV q.1.a q.1.b := rfl
      rw [hal] at Hst Hbad Hlong Hnx
      have hlen3 := allV_len q.1.a q.1.b
      obtain ⟨l3, ok, hlo⟩ : ∃ l b, allV q.1.a q.1.b = (l, b) := ⟨_, _, rfl⟩
      rw [hlo] at hown3 Hst Hbad Hlong Hnx hlen3
      rw [hlo]
      clear hlo hal f0 f1
      obtain ⟨A3, c3, rfl⟩ := own_formI hown3
      have Hn3 := Lib.hid hown3
      have G3 := Lib.hid (World.ownsRow.lt Hn3.out)
      have H73 := Lib.hid (own_below H7.out hb3)
      have H83 := Lib.hid (own_below H8.out hb3)
      have Hb3 := Lib.hid (bthen Hb.out hb3)
      have Hsz3 := Lib.hid hb3.size
      clear hown3 hb3
      cases ok
      · have Hno := Lib.hid (Hbad.out rfl)
        clear Hst Hbad Hlong Hnx
        have HnoV := Lib.hid (Hbf.out.symm.trans Hno.out)
        clear Hbf Hno
        go_wp2
        go_ret3
        exact ⟨by rw [HnoV.out]; rfl, bthen HbW.out Hb3.out⟩
      · have Hst2 := Lib.hid (Hst.out rfl); have Hnx2 := Lib.hid (Hnx.out rfl); clear Hst Hbad Hnx
        go_wp2
        go_loopw [40, 7, 8] (fun i o7 o8 wi => ∃ (j : Nat), j ≤ l3.length ∧ i = .int .i64 j ∧ Hid (wi.ownsRow W.heap.size 37 2 o7 (addT (q.2 + 1) (l3.take j) T).length (cuS.flat (fsT (addT (q.2 + 1) (l3.take j) T)))) ∧ Hid (wi.ownsRow W.heap.size 3 1 o8 (addT (q.2 + 1) (l3.take j) T).length (snT (addT (q.2 + 1) (l3.take j) T))) ∧ Hid (∀ g, o7.ownBlock = some g → o8.ownBlock ≠ some g) ∧ Hid (wi.ownsRow wr.heap.size 37 2 (.slice A3 l3.length c3) l3.length (cuS.flat l3)) ∧ Hid (∀ g, (Value.slice A3 l3.length c3).ownBlock = some g → o7.ownBlock ≠ some g ∧ o8.ownBlock ≠ some g) ∧ Hid (w3.heap.size ≤ wi.heap.size) ∧ Hid (Below W.heap.size W wi)) (fun i _ _ _ => l3.length - (intOf i).toNat)
        case atStart => exact ⟨0, Nat.zero_le _, rfl, H73, H83, Hap, Hn3, Lib.hid (fun g h1 => ⟨fun h2 => by have a1 := (G3.out g h1).1; have a2 := (World.ownsRow.lt H7.out g h2).2; omega, fun h2 => by have a1 := (G3.out g h1).1; have a2 := (World.ownsRow.lt H8.out g h2).2; omega⟩), Lib.hid (Nat.le_refl _), Hb3⟩
        case round =>
          obtain ⟨j, hj, rfl, I7, I8, Iap, In, Ifar, Isz, Ib⟩ := hrel
          obtain ⟨A7, c7, hv7⟩ := own_formI I7.out; subst hv7
          obtain ⟨A8, c8, hv8⟩ := own_formI I8.out; subst hv8
          by_cases hjl : j < l3.length
          · have Htk := Lib.hid (addT_take (s := q.2 + 1) (T := T) hjl)
            have Hul := Lib.hid (show (addT (q.2 + 1) (l3.take j) T).length ≤ 300 by have h1 := addT_len (q.2 + 1) (l3.take j) T; rw [List.length_take] at h1; omega)
            obtain ⟨hku, hqu⟩ := Hin.out (q.2 + 1) (l3.take j)
            obtain ⟨A9, c9, hv9, -, -, hA9⟩ := Rd.of_own (S := cuS) In.out rfl
            cases hv9
            obtain ⟨g3, off3, rfl, hg3, hcell⟩ := hA9 (by omega)
            obtain ⟨f0, f1⟩ := cu_cells hcell j hjl
            clear hcell hA9
            obtain ⟨d, hd⟩ : ∃ d, cuS.get l3 j = d := ⟨_, rfl⟩
            rw [hd] at f0 f1 Htk
            clear hd
            generalize hU : addT (q.2 + 1) (l3.take j) T = U at I7 I8 Htk Hul hku hqu Iap Ifar ⊢
            clear hU
            have Hqu := Lib.hid hqu; clear hqu
            have hj0 : (0 : Int) ≤ (j : Int) := by omega
            have hj1 : (j : Int) < (l3.length : Int) := by omega
            have HR7 := Lib.hid ((Rd.of_own (S := cuS) I7.out (fsT_len U).symm).on (bal (Below.refl _ _) (Obj.cells #[.int .i64 d.a, .int .i64 d.b] 37)))
            have hfl := fsT_len U
            have HBd := Lib.hid (Blk.new wr 37 #[.int .i64 d.a, .int .i64 d.b])
            go_wp2_with fail
            refine (containsCu_any _ (fsT U) d _ (by have h := HR7.out; exact h)).mono ?_; rintro e w5 ⟨rfl, hb5⟩
            have hb51 := bthen (bal (Below.refl _ _) (Obj.cells #[.int .i64 d.a, .int .i64 d.b] 37)) hb5
            have I75 := Lib.hid (own_below I7.out hb51)
            have I85 := Lib.hid (own_below I8.out hb51)
            have In5 := Lib.hid (own_below In.out hb51)
            have Ib5 := Lib.hid (bthen Ib.out hb51)
            have Isz5 := Lib.hid (Nat.le_trans Isz.out hb51.size)
            have HB5 := Lib.hid (HBd.out.on hb5)
            clear hb5 hb51 f0 f1 HR7 hfl
            by_cases hm : d ∈ fsT U
            · have hdm : decide (d ∈ fsT U) = true := decide_eq_true hm
              have Hn := Lib.hid (show addT (q.2 + 1) (l3.take (j + 1)) T = U by rw [Htk.out, if_pos hm]); clear hm Htk
              go_wp2
              go_roundw
              case rel => exact ⟨j + 1, by omega, by go_num, Lib.hid (by rw [Hn.out]; exact I75.out), Lib.hid (by rw [Hn.out]; exact I85.out), Iap, In5, Ifar, Isz5, Ib5⟩
              case measure => simp [intOf]; omega
            · have hdm : decide (d ∈ fsT U) = false := decide_eq_false hm
              have Hn := Lib.hid (show addT (q.2 + 1) (l3.take (j + 1)) T = U ++ [(d, q.2 + 1)] by rw [Htk.out, if_neg hm]); clear hm Htk
              have q0 : w5.cell? ⟨wr.heap.size, 0, none⟩ = some (.int .i64 d.a) := HB5.out.cell 0
              have q1 : w5.cell? ⟨wr.heap.size, 1, none⟩ = some (.int .i64 d.b) := HB5.out.cell 1
              have ql := HB5.out.lt
              have hul := Hul.out
              have hW5 := Ib5.out.size
              go_wp2_with (at_builtin; refine wpList_append_own_at _ rfl _ _ 27 rfl W.heap.size 37 i0 (.agg #[.int .i64 0, .int .i64 0]) 2 16 Try.underlying27 hi hz0 hz1 hz2 rfl (by decide) _ _ _ rfl (I75.out.alloc _) ⟨w5.heap.size, 0, none⟩ 1 1 (cuS.flat [d]) rfl rfl ?c1 (cui_one _) ?c3 ?c4 ?c5 ?_)
              case c1 => exact oneCuI_cells (Blk.new w5 _ _)
              case c3 => unfold maxLen; omega
              case c4 => omega
              case c5 => simp; omega
              intro v7 w6 ho7 hg7 _ hat7
              have e71 : fsT (U ++ [(d, q.2 + 1)]) = fsT U ++ [d] := by simp [fsT]
              have J7 := Lib.hid (show w6.ownsRow W.heap.size 37 2 v7 (U ++ [(d, q.2 + 1)]).length (cuS.flat (fsT (U ++ [(d, q.2 + 1)]))) by rw [e71, List.length_append, Shape.flat_append]; exact ho7)
              clear e71
              have hbL := bal (Below.refl w5.heap.size w5) (Obj.cells #[.int .i64 d.a, .int .i64 d.b] 37)
              have J8 := Lib.hid (World.ownsRow.kept (own_below I85.out hbL) hg7 (own_apartI (fun g h1 h2 => Iap.out g h2 h1)))
              have Jn := Lib.hid (World.ownsRow.kept (own_below In5.out hbL) hg7 (own_apartI (fun g h1 h2 => (Ifar.out g h1).1 h2)))
              have Jb := Lib.hid (show Below W.heap.size W w6 from Below.grown (Ib5.out.alloc hW5 _) hg7 (by simp; omega) (fun k9 h9 => (World.ownsRow.lt I75.out k9 h9).1))
              have Jsz := Lib.hid (show w5.heap.size + 1 ≤ w6.heap.size by have := hg7.size; simp at this; omega)
              have Jap := Lib.hid (show ∀ g, v7.ownBlock = some g → (Value.slice A8 U.length c8).ownBlock ≠ some g from fun g h1 h2 => hat7.elim (fun h3 => Iap.out g (h3 ▸ h1) h2) (fun h3 => by rw [h3] at h1; have a1 := (World.ownsRow.lt I85.out g h2).2; simp at h1; omega))
              have Jfar := Lib.hid (show ∀ g, (Value.slice (some ⟨g3, off3, none⟩) l3.length c3).ownBlock = some g → v7.ownBlock ≠ some g from fun g h1 h2 => hat7.elim (fun h3 => (Ifar.out g h1).1 (h3 ▸ h2)) (fun h3 => by rw [h3] at h2; have a1 := (World.ownsRow.lt In5.out g h1).2; simp at h2; omega))
              have Ifar8 := Lib.hid (fun g h1 => (Ifar.out g h1).2)
              clear ho7 hg7 hat7 hbL q0 q1 ql Iap I75 I85 In5 Ifar
              obtain ⟨g8, hA8, hg8, f8⟩ := snT_cell J8.out rfl k hku
              subst hA8
              rw [Hqu.out] at f8
              have hs0 := Hbk.out.1
              have hs1 := Hbk.out.2
              have hk8 : (k : Int) ≤ 8 := by omega
              have hku0 : (k : Int) < (U.length : Int) := by omega
              go_wp2_with (at_builtin; refine wpList_append_own_at _ rfl _ _ 43 rfl W.heap.size 3 j0 (.int .i64 0) 1 8 Try.underlying43 ji jz0 jz1 jz2 rfl (by decide) _ _ _ rfl (J8.out.alloc _) ⟨w6.heap.size, 0, none⟩ 1 1 [.int .i64 (q.2 + 1)] rfl rfl ?d1 ?d2 ?d3 ?d4 ?d5 ?_)
              case d1 =>
                intro j u hj
                match j, hj with
                | 0, hj => simp at hj; subst hj; exact (Blk.new w6 _ _).cell 0
              case d2 => intro u hu; simp at hu; subst hu; rfl
              case d3 => unfold maxLen; omega
              case d4 => omega
              case d5 => have := Jsz.out; simp; omega
              intro v8 w7 ho8 hg8b _ hat8
              have hbM := bal (Below.refl w6.heap.size w6) (Obj.cells #[.int .i64 (q.2 + 1)] 3)
              have K8 := Lib.hid (show w7.ownsRow W.heap.size 3 1 v8 (U ++ [(d, q.2 + 1)]).length (snT (U ++ [(d, q.2 + 1)])) by have e : snT (U ++ [(d, q.2 + 1)]) = snT U ++ [.int .i64 (q.2 + 1)] := (by simp [snT]); rw [e, List.length_append]; exact ho8)
              have K7 := Lib.hid (World.ownsRow.kept (own_below J7.out hbM) hg8b (own_apartI (fun g h1 h2 => Jap.out g h1 h2)))
              have Kn := Lib.hid (World.ownsRow.kept (own_below Jn.out hbM) hg8b (own_apartI (fun g h1 h2 => Ifar8.out g h1 h2)))
              have Kb := Lib.hid (show Below W.heap.size W w7 from Below.grown (Jb.out.alloc Jb.out.size _) hg8b (by have := Jb.out.size; simp; omega) (fun k9 h9 => (World.ownsRow.lt J8.out k9 h9).1))
              have Ksz := Lib.hid (show w3.heap.size ≤ w7.heap.size by have a1 := hg8b.size; have a2 := Jsz.out; have a3 := Isz5.out; simp at a1; omega)
              have Kap := Lib.hid (show ∀ g, v7.ownBlock = some g → v8.ownBlock ≠ some g from fun g h1 h2 => hat8.elim (fun h3 => Jap.out g h1 (h3 ▸ h2)) (fun h3 => by rw [h3] at h2; have a1 := (World.ownsRow.lt J7.out g h1).2; simp at h2; omega))
              have Kfar := Lib.hid (show ∀ g, (Value.slice (some ⟨g3, off3, none⟩) l3.length c3).ownBlock = some g → v7.ownBlock ≠ some g ∧ v8.ownBlock ≠ some g from fun g h1 => ⟨Jfar.out g h1, fun h2 => hat8.elim (fun h3 => Ifar8.out g h1 (h3 ▸ h2)) (fun h3 => by rw [h3] at h2; have a1 := (World.ownsRow.lt Jn.out g h1).2; simp at h2; omega)⟩)
              clear ho8 hg8b hat8 hbM f8
              go_wp2
              go_roundw
              case rel => exact ⟨j + 1, by omega, by go_num, Lib.hid (by rw [Hn.out]; exact K7.out), Lib.hid (by rw [Hn.out]; exact K8.out), Kap, Kn, Kfar, Ksz, Kb⟩
              case measure => simp [intOf]; omega
          · obtain rfl : j = l3.length := by omega
            clear Ifar
            rw [List.take_length] at I7 I8 Iap ⊢
            have Hnb := Lib.hid (addT_bd l3 T (n := ((k + 1 : Nat) : Int)) (fun x hx => by have := Hbd.out x hx; omega) (s := q.2 + 1) (by have := Hbk.out; omega) (by have := Hbk.out; omega))
            have Hku := Lib.hid (Hin.out (q.2 + 1) l3)
            have Hul := Lib.hid (addT_len (q.2 + 1) l3 T)
            generalize addT (q.2 + 1) l3 T = U at I7 I8 Iap Hst2 Hlong Hnx2 Hnb Hku Hul ⊢
            have hul := Hul.out
            by_cases h8 : U.length ≤ 8
            · have h8d : decide ((8 : Int) < (U.length : Int)) = false := decide_eq_false (by omega)
              have h8n : ¬ (8 : Int) < (U.length : Int) := by omega
              have Hst3 := Lib.hid (Hst2.out h8)
              go_wp2
              go_roundw
              case rel => exact ⟨k + 1, U, by have := Hku.out; obtain ⟨h, -⟩ := this; omega, h8, by go_num, Hnx2, Lib.hid (Hst3.out.symm.trans Hbf.out), Hnb, I7, I8, Iap, Ib⟩
              case measure => simp [intOf]; omega
            · have h8d : decide ((8 : Int) < (U.length : Int)) = true := decide_eq_true (by omega)
              have HnoV := Lib.hid (Hbf.out.symm.trans (Hlong.out (by omega)))
              go_wp2
              go_ret3
              exact ⟨by rw [HnoV.out]; rfl, bthen HbW.out Ib.out⟩
    · obtain rfl : k = T.length := by omega
      have HV2 := Lib.hid (show V = some T by rw [← Hbf.out, show 9 - T.length = (8 - T.length) + 1 by omega]; exact bfs_end (Nat.le_refl _))
      go_wp2
      go_ret3
      exact ⟨by rw [HV2.out]; exact ⟨_, _, rfl, own_mono H7.out HbW.out.size, own_mono H8.out HbW.out.size⟩, bthen HbW.out Hb.out⟩
set_option maxRecDepth 8000 in
set_option maxHeartbeats 16000000 in
theorem clsS_any (a b : Int) (w : World) (hc : curveB a b = true) :
    Calls Try.prog 48 #[.agg #[.int .i64 a, .int .i64 b]] w fun r w' => ClsR w.heap.size (clsV a b) r w' ∧ Below w.heap.size w w' := by
  obtain ⟨i0, hi, hz0, hz1, hz2⟩ := info_parts infoCuI
  obtain ⟨j0, ji, jz0, jz1, jz2⟩ := info_parts infoIntC
  have Hc := Lib.hid hc; clear hc
  have HbA := Lib.hid (show Below w.heap.size w (w.alloc (Obj.cells #[.int .i64 a, .int .i64 b] 37)) from bal (Below.refl _ _) _)
  obtain ⟨V, hV⟩ : ∃ V, clsV a b = V := ⟨_, rfl⟩
  have HV := Lib.hid (show V = bfs 9 0 [(smC a b, 0)] from hV.symm)
  rw [hV]
  clear hV
  go_enter Try.func48, Try.ntmps48
  go_wp2_with fail
  refine (ecSmallest_any a b _ Hc.out).mono ?_
  rintro e w1 ⟨rfl, hb1⟩
  have Hstart := Lib.hid (Srch.start (gdC_sm Hc.out))
  generalize smC a b = m at Hstart HV ⊢
  have HbW := Lib.hid (bal (bthen HbA.out hb1) (Obj.cells #[.int .i64 m.a, .int .i64 m.b] 37))
  clear hb1
  go_wp2
  have Hl7 : Hid ((((w1.alloc (Obj.cells #[.int .i64 m.a, .int .i64 m.b] 37)).alloc (Obj.cells #[.int .i64 m.a, .int .i64 m.b] 37)).alloc (Obj.cells #[.int .i64 0] 3)).ownsRow (w1.heap.size + 1) 37 2 (.slice (some ⟨w1.heap.size + 1, 0, none⟩) 1 1) 1 (cuS.flat (fsT [(m, 0)]))) := Lib.hid (World.ownsRow.alloc (by have h := World.ownsRow_lit (e := 37) (size := 2) (base := w1.heap.size + 1) (w1.alloc (Obj.cells #[.int .i64 m.a, .int .i64 m.b] 37)) #[.int .i64 m.a, .int .i64 m.b] 1 (by simp) (by unfold maxLen; omega) (by simp); rw [World.size_alloc] at h; exact h) _)
  have Hl8 : Hid ((((w1.alloc (Obj.cells #[.int .i64 m.a, .int .i64 m.b] 37)).alloc (Obj.cells #[.int .i64 m.a, .int .i64 m.b] 37)).alloc (Obj.cells #[.int .i64 0] 3)).ownsRow (w1.heap.size + 1) 3 1 (.slice (some ⟨w1.heap.size + 1 + 1, 0, none⟩) 1 1) 1 (snT [(m, 0)])) := Lib.hid (by have h := World.ownsRow_lit (e := 3) (size := 1) (base := w1.heap.size + 1) ((w1.alloc (Obj.cells #[.int .i64 m.a, .int .i64 m.b] 37)).alloc (Obj.cells #[.int .i64 m.a, .int .i64 m.b] 37)) #[.int .i64 0] 1 (by simp) (by unfold maxLen; omega) (by simp); rw [World.size_alloc, World.size_alloc] at h; exact h)
  have Hb0 := Lib.hid (bal (bal (Below.refl _ (w1.alloc (Obj.cells #[.int .i64 m.a, .int .i64 m.b] 37))) (Obj.cells #[.int .i64 m.a, .int .i64 m.b] 37)) (Obj.cells #[.int .i64 0] 3))
  have Hsz0 := Lib.hid (World.size_alloc w1 (Obj.cells #[.int .i64 m.a, .int .i64 m.b] 37))
  generalize ((w1.alloc (Obj.cells #[.int .i64 m.a, .int .i64 m.b] 37)).alloc (Obj.cells #[.int .i64 m.a, .int .i64 m.b] 37)).alloc (Obj.cells #[.int .i64 0] 3) = W2 at Hl7 Hl8 Hb0 ⊢
  generalize w1.alloc (Obj.cells #[.int .i64 m.a, .int .i64 m.b] 37) = W at HbW Hb0 Hsz0
  rw [← Hsz0.out] at Hl7 Hl8 ⊢
  go_loopw [9, 7, 8] (fun i o7 o8 wr => ∃ (k : Nat) (T : List (Cu × Int)), k ≤ T.length ∧ T.length ≤ 8 ∧ i = .int .i64 k ∧ Hid (Srch m k T) ∧ Hid (bfs (9 - k) k T = V) ∧ Hid (∀ q ∈ T, 0 ≤ q.2 ∧ q.2 ≤ (k : Int)) ∧ Hid (wr.ownsRow W.heap.size 37 2 o7 T.length (cuS.flat (fsT T))) ∧ Hid (wr.ownsRow W.heap.size 3 1 o8 T.length (snT T)) ∧ Hid (∀ g, o7.ownBlock = some g → o8.ownBlock ≠ some g) ∧ Hid (Below W.heap.size W wr)) (fun i _ _ _ => 9 - (intOf i).toNat)
  case atStart => exact ⟨0, [(m, 0)], by simp, by simp, rfl, Hstart, Lib.hid HV.out.symm, Lib.hid (by intro q hq; rw [List.mem_singleton] at hq; subst hq; simp), Hl7, Hl8, Lib.hid (by intro g h1 h2; simp [Value.ownBlock] at h1 h2; omega), Hb0⟩
  case round =>
    obtain ⟨k, T, hk, hT8, rfl, Hsr, Hbf, Hbd, H7, H8, Hap, Hb⟩ := hrel
    obtain ⟨A7, c7, hv7⟩ := own_formI H7.out; subst hv7
    obtain ⟨A8, c8, hv8⟩ := own_formI H8.out; subst hv8
    by_cases hlt : k < T.length
    · obtain ⟨g7, rfl, hg7, f0, f1⟩ := fsT_cell H7.out rfl k hlt
      have hi0 : (0 : Int) ≤ (k : Int) := by omega
      have hi1 : (k : Int) < (T.length : Int) := by omega
      have Hgd := Lib.hid (Hsr.out.gd _ (List.getElem_mem hlt))
      have Hbk := Lib.hid (Hbd.out _ (List.getElem_mem hlt))
      have Hin := Lib.hid (fun s l => addT_in s T l k hlt)
      have Hst := Lib.hid (fun (ho : (alC T[k].1).2 = true) (hl : (addT (T[k].2 + 1) (alC T[k].1).1 T).length ≤ 8) => (show bfs (9 - k) k T = bfs (9 - (k + 1)) (k + 1) (addT (T[k].2 + 1) (alC T[k].1).1 T) from by rw [show 9 - k = (9 - (k + 1)) + 1 by omega]; exact bfs_step hlt ho hl))
      have Hbad := Lib.hid (fun (ho : (alC T[k].1).2 = false) => (show bfs (9 - k) k T = none from by rw [show 9 - k = (9 - (k + 1)) + 1 by omega]; exact bfs_bad hlt ho))
      have Hlong := Lib.hid (fun (hl : 8 < (addT (T[k].2 + 1) (alC T[k].1).1 T).length) => (show bfs (9 - k) k T = none from by rw [show 9 - k = (9 - (k + 1)) + 1 by omega]; exact bfs_long hlt hl))
      have Hnx := Lib.hid (fun ho => Hsr.out.next hlt ho)
      generalize hq : T[k] = q at f0 f1 Hgd Hbk Hin Hst Hbad Hlong Hnx
      have Hq := Lib.hid hq; clear hq
      go_wp2_with fail
      refine (icAll_any q.1.a q.1.b _ Hgd.out.1.1).mono ?_; rintro e w3 ⟨⟨v3, rfl, hown3⟩, hb3⟩
      have hal : alC q.1 = allV q.1.a q.1.b := rfl
      rw [hal] at Hst Hbad Hlong Hnx
      have hlen3 := allV_len q.1.a q.1.b
      obtain ⟨l3, ok, hlo⟩ : ∃ l b, allV q.1.a q.1.b = (l, b) := ⟨_, _, rfl⟩
      rw [hlo] at hown3 Hst Hbad Hlong Hnx hlen3
      rw [hlo]
      clear hlo hal f0 f1
      obtain ⟨A3, c3, rfl⟩ := own_formI hown3
      have Hn3 := Lib.hid hown3
      have G3 := Lib.hid (World.ownsRow.lt Hn3.out)
      have H73 := Lib.hid (own_below H7.out hb3)
      have H83 := Lib.hid (own_below H8.out hb3)
      have Hb3 := Lib.hid (bthen Hb.out hb3)
      have Hsz3 := Lib.hid hb3.size
      clear hown3 hb3
      cases ok
      · have Hno := Lib.hid (Hbad.out rfl)
        clear Hst Hbad Hlong Hnx
        have HnoV := Lib.hid (Hbf.out.symm.trans Hno.out)
        clear Hbf Hno
        go_wp2
        go_ret3
        exact ⟨by rw [HnoV.out]; rfl, bthen HbW.out Hb3.out⟩
      · have Hst2 := Lib.hid (Hst.out rfl); have Hnx2 := Lib.hid (Hnx.out rfl); clear Hst Hbad Hnx
        go_wp2
        go_loopw [40, 7, 8] (fun i o7 o8 wi => ∃ (j : Nat), j ≤ l3.length ∧ i = .int .i64 j ∧ Hid (wi.ownsRow W.heap.size 37 2 o7 (addT (q.2 + 1) (l3.take j) T).length (cuS.flat (fsT (addT (q.2 + 1) (l3.take j) T)))) ∧ Hid (wi.ownsRow W.heap.size 3 1 o8 (addT (q.2 + 1) (l3.take j) T).length (snT (addT (q.2 + 1) (l3.take j) T))) ∧ Hid (∀ g, o7.ownBlock = some g → o8.ownBlock ≠ some g) ∧ Hid (wi.ownsRow wr.heap.size 37 2 (.slice A3 l3.length c3) l3.length (cuS.flat l3)) ∧ Hid (∀ g, (Value.slice A3 l3.length c3).ownBlock = some g → o7.ownBlock ≠ some g ∧ o8.ownBlock ≠ some g) ∧ Hid (w3.heap.size ≤ wi.heap.size) ∧ Hid (Below W.heap.size W wi)) (fun i _ _ _ => l3.length - (intOf i).toNat)
        case atStart => exact ⟨0, Nat.zero_le _, rfl, H73, H83, Hap, Hn3, Lib.hid (fun g h1 => ⟨fun h2 => by have a1 := (G3.out g h1).1; have a2 := (World.ownsRow.lt H7.out g h2).2; omega, fun h2 => by have a1 := (G3.out g h1).1; have a2 := (World.ownsRow.lt H8.out g h2).2; omega⟩), Lib.hid (Nat.le_refl _), Hb3⟩
        case round =>
          obtain ⟨j, hj, rfl, I7, I8, Iap, In, Ifar, Isz, Ib⟩ := hrel
          obtain ⟨A7, c7, hv7⟩ := own_formI I7.out; subst hv7
          obtain ⟨A8, c8, hv8⟩ := own_formI I8.out; subst hv8
          by_cases hjl : j < l3.length
          · have Htk := Lib.hid (addT_take (s := q.2 + 1) (T := T) hjl)
            have Hul := Lib.hid (show (addT (q.2 + 1) (l3.take j) T).length ≤ 300 by have h1 := addT_len (q.2 + 1) (l3.take j) T; rw [List.length_take] at h1; omega)
            obtain ⟨hku, hqu⟩ := Hin.out (q.2 + 1) (l3.take j)
            obtain ⟨A9, c9, hv9, -, -, hA9⟩ := Rd.of_own (S := cuS) In.out rfl
            cases hv9
            obtain ⟨g3, off3, rfl, hg3, hcell⟩ := hA9 (by omega)
            obtain ⟨f0, f1⟩ := cu_cells hcell j hjl
            clear hcell hA9
            obtain ⟨d, hd⟩ : ∃ d, cuS.get l3 j = d := ⟨_, rfl⟩
            rw [hd] at f0 f1 Htk
            clear hd
            generalize hU : addT (q.2 + 1) (l3.take j) T = U at I7 I8 Htk Hul hku hqu Iap Ifar ⊢
            clear hU
            have Hqu := Lib.hid hqu; clear hqu
            have hj0 : (0 : Int) ≤ (j : Int) := by omega
            have hj1 : (j : Int) < (l3.length : Int) := by omega
            have HR7 := Lib.hid ((Rd.of_own (S := cuS) I7.out (fsT_len U).symm).on (bal (Below.refl _ _) (Obj.cells #[.int .i64 d.a, .int .i64 d.b] 37)))
            have hfl := fsT_len U
            have HBd := Lib.hid (Blk.new wr 37 #[.int .i64 d.a, .int .i64 d.b])
            go_wp2_with fail
            refine (icAt_any _ (fsT U) d _ (by have h := HR7.out; exact h)).mono ?_; rintro e w5 ⟨rfl, hb5⟩
            have hb51 := bthen (bal (Below.refl _ _) (Obj.cells #[.int .i64 d.a, .int .i64 d.b] 37)) hb5
            have I75 := Lib.hid (own_below I7.out hb51)
            have I85 := Lib.hid (own_below I8.out hb51)
            have In5 := Lib.hid (own_below In.out hb51)
            have Ib5 := Lib.hid (bthen Ib.out hb51)
            have Isz5 := Lib.hid (Nat.le_trans Isz.out hb51.size)
            have HB5 := Lib.hid (HBd.out.on hb5)
            clear hb5 hb51 f0 f1 HR7 hfl
            by_cases hm : d ∈ fsT U
            · have hdm : decide (atC (fsT U) d < 0) = false := by have h := atC_pos (L := fsT U) (c := d); rw [decide_eq_true hm] at h; have h2 := of_decide_eq_true h; exact decide_eq_false (by omega)
              have Hn := Lib.hid (show addT (q.2 + 1) (l3.take (j + 1)) T = U by rw [Htk.out, if_pos hm]); clear hm Htk
              go_wp2
              go_roundw
              case rel => exact ⟨j + 1, by omega, by go_num, Lib.hid (by rw [Hn.out]; exact I75.out), Lib.hid (by rw [Hn.out]; exact I85.out), Iap, In5, Ifar, Isz5, Ib5⟩
              case measure => simp [intOf]; omega
            · have hdm : decide (atC (fsT U) d < 0) = true := by have h := atC_pos (L := fsT U) (c := d); rw [decide_eq_false hm] at h; have h2 := of_decide_eq_false h; exact decide_eq_true (by omega)
              have Hn := Lib.hid (show addT (q.2 + 1) (l3.take (j + 1)) T = U ++ [(d, q.2 + 1)] by rw [Htk.out, if_neg hm]); clear hm Htk
              have q0 : w5.cell? ⟨wr.heap.size, 0, none⟩ = some (.int .i64 d.a) := HB5.out.cell 0
              have q1 : w5.cell? ⟨wr.heap.size, 1, none⟩ = some (.int .i64 d.b) := HB5.out.cell 1
              have ql := HB5.out.lt
              have hul := Hul.out
              have hW5 := Ib5.out.size
              go_wp2_with (at_builtin; refine wpList_append_own_at _ rfl _ _ 27 rfl W.heap.size 37 i0 (.agg #[.int .i64 0, .int .i64 0]) 2 16 Try.underlying27 hi hz0 hz1 hz2 rfl (by decide) _ _ _ rfl (I75.out.alloc _) ⟨w5.heap.size, 0, none⟩ 1 1 (cuS.flat [d]) rfl rfl ?c1 (cui_one _) ?c3 ?c4 ?c5 ?_)
              case c1 => exact oneCuI_cells (Blk.new w5 _ _)
              case c3 => unfold maxLen; omega
              case c4 => omega
              case c5 => simp; omega
              intro v7 w6 ho7 hg7 _ hat7
              have e71 : fsT (U ++ [(d, q.2 + 1)]) = fsT U ++ [d] := by simp [fsT]
              have J7 := Lib.hid (show w6.ownsRow W.heap.size 37 2 v7 (U ++ [(d, q.2 + 1)]).length (cuS.flat (fsT (U ++ [(d, q.2 + 1)]))) by rw [e71, List.length_append, Shape.flat_append]; exact ho7)
              clear e71
              have hbL := bal (Below.refl w5.heap.size w5) (Obj.cells #[.int .i64 d.a, .int .i64 d.b] 37)
              have J8 := Lib.hid (World.ownsRow.kept (own_below I85.out hbL) hg7 (own_apartI (fun g h1 h2 => Iap.out g h2 h1)))
              have Jn := Lib.hid (World.ownsRow.kept (own_below In5.out hbL) hg7 (own_apartI (fun g h1 h2 => (Ifar.out g h1).1 h2)))
              have Jb := Lib.hid (show Below W.heap.size W w6 from Below.grown (Ib5.out.alloc hW5 _) hg7 (by simp; omega) (fun k9 h9 => (World.ownsRow.lt I75.out k9 h9).1))
              have Jsz := Lib.hid (show w5.heap.size + 1 ≤ w6.heap.size by have := hg7.size; simp at this; omega)
              have Jap := Lib.hid (show ∀ g, v7.ownBlock = some g → (Value.slice A8 U.length c8).ownBlock ≠ some g from fun g h1 h2 => hat7.elim (fun h3 => Iap.out g (h3 ▸ h1) h2) (fun h3 => by rw [h3] at h1; have a1 := (World.ownsRow.lt I85.out g h2).2; simp at h1; omega))
              have Jfar := Lib.hid (show ∀ g, (Value.slice (some ⟨g3, off3, none⟩) l3.length c3).ownBlock = some g → v7.ownBlock ≠ some g from fun g h1 h2 => hat7.elim (fun h3 => (Ifar.out g h1).1 (h3 ▸ h2)) (fun h3 => by rw [h3] at h2; have a1 := (World.ownsRow.lt In5.out g h1).2; simp at h2; omega))
              have Ifar8 := Lib.hid (fun g h1 => (Ifar.out g h1).2)
              clear ho7 hg7 hat7 hbL q0 q1 ql Iap I75 I85 In5 Ifar
              obtain ⟨g8, hA8, hg8, f8⟩ := snT_cell J8.out rfl k hku
              subst hA8
              rw [Hqu.out] at f8
              have hs0 := Hbk.out.1
              have hs1 := Hbk.out.2
              have hk8 : (k : Int) ≤ 8 := by omega
              have hku0 : (k : Int) < (U.length : Int) := by omega
              go_wp2_with (at_builtin; refine wpList_append_own_at _ rfl _ _ 43 rfl W.heap.size 3 j0 (.int .i64 0) 1 8 Try.underlying43 ji jz0 jz1 jz2 rfl (by decide) _ _ _ rfl (J8.out.alloc _) ⟨w6.heap.size, 0, none⟩ 1 1 [.int .i64 (q.2 + 1)] rfl rfl ?d1 ?d2 ?d3 ?d4 ?d5 ?_)
              case d1 =>
                intro j u hj
                match j, hj with
                | 0, hj => simp at hj; subst hj; exact (Blk.new w6 _ _).cell 0
              case d2 => intro u hu; simp at hu; subst hu; rfl
              case d3 => unfold maxLen; omega
              case d4 => omega
              case d5 => have := Jsz.out; simp; omega
              intro v8 w7 ho8 hg8b _ hat8
              have hbM := bal (Below.refl w6.heap.size w6) (Obj.cells #[.int .i64 (q.2 + 1)] 3)
              have K8 := Lib.hid (show w7.ownsRow W.heap.size 3 1 v8 (U ++ [(d, q.2 + 1)]).length (snT (U ++ [(d, q.2 + 1)])) by have e : snT (U ++ [(d, q.2 + 1)]) = snT U ++ [.int .i64 (q.2 + 1)] := (by simp [snT]); rw [e, List.length_append]; exact ho8)
              have K7 := Lib.hid (World.ownsRow.kept (own_below J7.out hbM) hg8b (own_apartI (fun g h1 h2 => Jap.out g h1 h2)))
              have Kn := Lib.hid (World.ownsRow.kept (own_below Jn.out hbM) hg8b (own_apartI (fun g h1 h2 => Ifar8.out g h1 h2)))
              have Kb := Lib.hid (show Below W.heap.size W w7 from Below.grown (Jb.out.alloc Jb.out.size _) hg8b (by have := Jb.out.size; simp; omega) (fun k9 h9 => (World.ownsRow.lt J8.out k9 h9).1))
              have Ksz := Lib.hid (show w3.heap.size ≤ w7.heap.size by have a1 := hg8b.size; have a2 := Jsz.out; have a3 := Isz5.out; simp at a1; omega)
              have Kap := Lib.hid (show ∀ g, v7.ownBlock = some g → v8.ownBlock ≠ some g from fun g h1 h2 => hat8.elim (fun h3 => Jap.out g h1 (h3 ▸ h2)) (fun h3 => by rw [h3] at h2; have a1 := (World.ownsRow.lt J7.out g h1).2; simp at h2; omega))
              have Kfar := Lib.hid (show ∀ g, (Value.slice (some ⟨g3, off3, none⟩) l3.length c3).ownBlock = some g → v7.ownBlock ≠ some g ∧ v8.ownBlock ≠ some g from fun g h1 => ⟨Jfar.out g h1, fun h2 => hat8.elim (fun h3 => Ifar8.out g h1 (h3 ▸ h2)) (fun h3 => by rw [h3] at h2; have a1 := (World.ownsRow.lt Jn.out g h1).2; simp at h2; omega)⟩)
              clear ho8 hg8b hat8 hbM f8
              go_wp2
              go_roundw
              case rel => exact ⟨j + 1, by omega, by go_num, Lib.hid (by rw [Hn.out]; exact K7.out), Lib.hid (by rw [Hn.out]; exact K8.out), Kap, Kn, Kfar, Ksz, Kb⟩
              case measure => simp [intOf]; omega
          · obtain rfl : j = l3.length := by omega
            clear Ifar
            rw [List.take_length] at I7 I8 Iap ⊢
            have Hnb := Lib.hid (addT_bd l3 T (n := ((k + 1 : Nat) : Int)) (fun x hx => by have := Hbd.out x hx; omega) (s := q.2 + 1) (by have := Hbk.out; omega) (by have := Hbk.out; omega))
            have Hku := Lib.hid (Hin.out (q.2 + 1) l3)
            have Hul := Lib.hid (addT_len (q.2 + 1) l3 T)
            generalize addT (q.2 + 1) l3 T = U at I7 I8 Iap Hst2 Hlong Hnx2 Hnb Hku Hul ⊢
            have hul := Hul.out
            by_cases h8 : U.length ≤ 8
            · have h8d : decide ((8 : Int) < (U.length : Int)) = false := decide_eq_false (by omega)
              have h8n : ¬ (8 : Int) < (U.length : Int) := by omega
              have Hst3 := Lib.hid (Hst2.out h8)
              go_wp2
              go_roundw
              case rel => exact ⟨k + 1, U, by have := Hku.out; obtain ⟨h, -⟩ := this; omega, h8, by go_num, Hnx2, Lib.hid (Hst3.out.symm.trans Hbf.out), Hnb, I7, I8, Iap, Ib⟩
              case measure => simp [intOf]; omega
            · have h8d : decide ((8 : Int) < (U.length : Int)) = true := decide_eq_true (by omega)
              have HnoV := Lib.hid (Hbf.out.symm.trans (Hlong.out (by omega)))
              go_wp2
              go_ret3
              exact ⟨by rw [HnoV.out]; rfl, bthen HbW.out Ib.out⟩
    · obtain rfl : k = T.length := by omega
      have HV2 := Lib.hid (show V = some T by rw [← Hbf.out, show 9 - T.length = (8 - T.length) + 1 by omega]; exact bfs_end (Nat.le_refl _))
      go_wp2
      go_ret3
      exact ⟨by rw [HV2.out]; exact ⟨_, _, rfl, own_mono H7.out HbW.out.size, own_mono H8.out HbW.out.size⟩, bthen HbW.out Hb.out⟩
end Go.Proofs.Ytnhgdmhiblpknaa
