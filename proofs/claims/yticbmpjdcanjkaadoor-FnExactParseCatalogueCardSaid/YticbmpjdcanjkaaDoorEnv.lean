/- What a journal's functions lean on besides memory of their own: the table of powers of ten, a world of the program's shape, strconv's two sentinels; strings.Cut, Split, strconv.Atoi there. Conditions: those. -/
import Derived.Test.YticbmpjdcanjkaaDoorJrP
import Derived.ChangeAgain
import Derived.WalkSmall
import Derived.Lib.AtoiAllCases
namespace Go.Proofs.YticbmpjdcanjkaaDoor
open Go Go.RowKit

theorem kept_of_below {w w' : World} (hb : Below w.heap.size w w') : w.keptBut w' (fun _ => False) := ⟨hb.os, hb.output, fun i hi => by
  rw [hb.block i hi]
  cases h : w.heap[i]? with
  | none => rfl
  | some o => cases o with
    | cells c t fr => exact ⟨rfl, rfl, rfl, fun _ _ => rfl⟩
    | map es clock => exact Or.inr ⟨rfl, rfl⟩
    | _ => rfl⟩
theorem shaped_on {w w' : World} (h : w.ShapedOpen Tryd.prog) (hb : Below w.heap.size w w') : w'.ShapedOpen Tryd.prog := h.keptBut (kept_of_below hb) (fun _ hf => hf.elim)
theorem var_on {w w' : World} {n : String} {cs : Array Value} (h : w.var? Tryd.prog n = some cs) (hb : Below w.heap.size w w') : w'.var? Tryd.prog n = some cs := by
  unfold World.var? at h ⊢
  cases hg : Tryd.prog.globalNamed n with
  | none => rw [hg] at h; cases h
  | some g =>
    rw [hg] at h
    simp only [Option.bind_some] at h ⊢
    rcases Nat.lt_or_ge g w.heap.size with hl | hl
    · rw [hb.block g hl]; exact h
    · rw [Array.getElem?_eq_none hl] at h; cases h
structure Env (w : World) : Prop where
  tab : Tab w
  sh : w.ShapedOpen Tryd.prog
  es : ∃ tp p, w.var? Tryd.prog "strconv.ErrSyntax" = some #[.iface tp p]
  er : ∃ tp p, w.var? Tryd.prog "strconv.ErrRange" = some #[.iface tp p]
theorem Env.on {w w' : World} (h : Env w) (hb : Below w.heap.size w w') : Env w' :=
  ⟨h.tab.on hb, shaped_on h.sh hb, let ⟨tp, p, h1⟩ := h.es; ⟨tp, p, var_on h1 hb⟩, let ⟨tp, p, h1⟩ := h.er; ⟨tp, p, var_on h1 hb⟩⟩

/-- How strconv.Atoi ends: a number; or none, and an error. -/
def AtP (s : ByteArray) (e : Ending) : Prop :=
  (∃ v : Int, Lib.atoiAll s.data.toList = .ok v ∧ -9223372036854775808 ≤ v ∧ v ≤ 9223372036854775807 ∧ e = .returned (.tuple #[.int .i64 v, .nilIface])) ∨
  ((∀ v : Int, Lib.atoiAll s.data.toList ≠ .ok v) ∧ ∃ (v : Int) (t : TypeId) (N : Nat), e = .returned (.tuple #[.int .i64 v, .iface t (.pointer (some ⟨N, 0, none⟩))]))
theorem atoi_any (s : ByteArray) (w : World) (hs : s.size ≤ 100000000) (h : Env w) : Calls Tryd.prog 18 #[.string s] w fun e w' => AtP s e ∧ Below w.heap.size w w' := by
  obtain ⟨tp, p, h1⟩ := h.es
  obtain ⟨tq, q, h2⟩ := h.er
  rcases hh : Lib.atoiAll s.data.toList with v | _ | _
  · refine (Tryd.strconv_Atoi_ok s (by omega) v hh w).mono fun e w' hp => ?_
    obtain ⟨he, hw⟩ := hp
    refine ⟨Or.inl ⟨v, hh, (Lib.atoiAll_bounds hh).1, (Lib.atoiAll_bounds hh).2, he⟩, ?_⟩
    rcases hw with rfl | ⟨t, rfl⟩
    · exact Below.refl _ _
    · exact Lib.bytesWorld_below _ _ _
  · refine (Any.strconv_Atoi_syntax_var Tryd.laysC172 s (by omega) hh tp p w h1).mono fun e w' hp => ?_
    obtain ⟨N, he, -, -, hb⟩ := hp
    exact ⟨Or.inr ⟨(fun v hv => by rw [hh] at hv; cases hv), 0, _, N, he⟩, hb⟩
  · refine (Any.strconv_Atoi_range_var Tryd.laysC172 s (by omega) hh tq q w h2).mono fun e w' hp => ?_
    obtain ⟨N, he, -, -, hb⟩ := hp
    exact ⟨Or.inr ⟨(fun v hv => by rw [hh] at hv; cases hv), _, _, N, he⟩, hb⟩
/-- The text ahead of the mark, and its words. -/
def jrT (line : ByteArray) : ByteArray := ⟨(Lib.cut line.data.toList [35]).1.toArray⟩
def jrW (line : ByteArray) : List ByteArray := Lib.splitB ⟨#[32]⟩ 0 (Lib.countB (jrT line) ⟨#[32]⟩) (jrT line)
theorem jrT_size (line : ByteArray) : (jrT line).size ≤ line.size := by
  have h : (Lib.cut line.data.toList [35]).1.length ≤ line.data.toList.length := by
    unfold Lib.cut
    split
    · rw [List.length_take]; exact Nat.min_le_right _ _
    · exact Nat.le_refl _
  exact h
theorem jrW_length (line : ByteArray) : (jrW line).length = Lib.countB (jrT line) ⟨#[32]⟩ + 1 := Lib.splitB_all ⟨#[32]⟩ (by decide) 0 _ _ rfl
theorem no35 (es : List Int) : (35 : UInt8) ∉ (nText es).data.toList := by
  intro h
  have h2 : (35 : UInt8) ∈ Lib.join ((es.map itS).map (·.data.toList)) [32] := h
  cases es with
  | nil => simp [Lib.join] at h2
  | cons e es =>
    have key : ∀ (r : List (List UInt8)) (x : List UInt8), (∀ w ∈ x :: r, (35 : UInt8) ∉ w) → (35 : UInt8) ∉ Lib.join (x :: r) [32] := by
      intro r
      induction r with
      | nil => intro x hx; rw [Lib.join_one]; exact hx x (by simp)
      | cons y r ih =>
        intro x hx
        rw [join2]
        intro hm
        rcases List.mem_append.1 hm with hm | hm
        · exact hx x (by simp) hm
        · rcases List.mem_cons.1 hm with hm | hm
          · revert hm; decide
          · exact ih y (fun w hw => hx w (by simp at hw ⊢; exact Or.inr hw)) hm
    refine key _ _ (fun w hw h35 => ?_) h2
    rw [← List.map_cons (f := fun x : ByteArray => x.data.toList), ← List.map_cons (f := itS)] at hw
    simp only [List.map_map, List.mem_map] at hw
    obtain ⟨n, -, rfl⟩ := hw
    have := itoa_byte n 35 h35
    revert this; decide
theorem line_text (k a b lo hi : Int) : jrT (lineS k a b lo hi) = nText [k, a, b, lo, hi] := by
  have hd : (lineS k a b lo hi).data.toList = (nText [k, a, b, lo, hi]).data.toList ++ 35 :: ((itS (sumL (nText [k, a, b, lo, hi]).data.toList)).data.toList ++ [10]) := by
    unfold lineS
    simp
  unfold jrT
  rw [hd, cut_here 35 _ _ (no35 _)]
theorem line_words (k a b lo hi : Int) : jrW (lineS k a b lo hi) = [itS k, itS a, itS b, itS lo, itS hi] := by
  unfold jrW
  rw [line_text]
  exact (split_nText k [a, b, lo, hi]).2
end Go.Proofs.YticbmpjdcanjkaaDoor
