/- The program's reader of a record's line. Conditions: Env. -/
import Derived.Test.YticbmpjdcanjkaaDoorEnv
import Derived.Test.YticbmpjdcanjkaaDoorRow
namespace Go.Proofs.YticbmpjdcanjkaaDoor
open Go Go.RowKit

def okNums (ws : List ByteArray) (xs : List Int) : Prop := ws.map (fun s => Lib.atoiAll s.data.toList) = xs.map Lib.NumEnd.ok
theorem okNums_nil : okNums [] [] := rfl
theorem okNums_snoc {ws : List ByteArray} {xs : List Int} {j : Nat} {v : Int} (h : okNums (ws.take j) xs) (hj : j < ws.length) (hv : Lib.atoiAll ws[j].data.toList = .ok v) : okNums (ws.take (j + 1)) (xs ++ [v]) := by
  unfold okNums at h ⊢
  rw [List.take_succ_eq_append_getElem hj, List.map_append, List.map_append, h]
  simp [hv]
def RdP (k : Int) (line : ByteArray) (e : Ending) : Prop :=
  (∃ a b lo hi : Int, recB a b lo hi = true ∧ lineS k a b lo hi = line ∧ e = .returned (.tuple #[.agg #[.int .i64 a, .int .i64 b, .int .i64 lo, .int .i64 hi], .bool true])) ∨
  ((∀ a b lo hi : Int, recB a b lo hi = true → lineS k a b lo hi ≠ line) ∧ ∃ a b lo hi : Int, e = .returned (.tuple #[.agg #[.int .i64 a, .int .i64 b, .int .i64 lo, .int .i64 hi], .bool false]))
theorem recB_bd {k a b lo hi : Int} (h : recB a b lo hi = true) (hk : 0 ≤ k ∧ k ≤ 29) : RcB k a b lo hi := by
  unfold recB at h
  simp only [Bool.and_eq_true, decide_eq_true_eq] at h
  have h2 := curveB_bd h.1
  exact ⟨hk, h2.1, h2.2, by omega, by omega⟩
theorem rec_words {k a b lo hi : Int} {line : ByteArray} (h : recB a b lo hi = true) (hk : 0 ≤ k ∧ k ≤ 29) (hl : lineS k a b lo hi = line) : okNums (jrW line) [k, a, b, lo, hi] := by
  have hb := recB_bd h hk
  have h1 := hb.a; have h2 := hb.b; have h3 := hb.lo; have h4 := hb.hi
  rw [← hl]
  unfold okNums
  rw [line_words]
  simp only [List.map_cons, List.map_nil]
  rw [atoiAll_itS k (by omega), atoiAll_itS a (by omega), atoiAll_itS b (by omega), atoiAll_itS lo (by omega), atoiAll_itS hi (by omega)]
theorem okNums_inj {ws : List ByteArray} {xs ys : List Int} (h : okNums ws xs) (h2 : okNums ws ys) : xs = ys := by
  unfold okNums at h h2
  have h3 := h.symm.trans h2
  exact (List.map_inj_right (fun a b e => by injection e)).1 h3
theorem not_rec_len {k : Int} {line : ByteArray} (hk : 0 ≤ k ∧ k ≤ 29) (hn : (jrW line).length ≠ 5) : ∀ a b lo hi : Int, recB a b lo hi = true → lineS k a b lo hi ≠ line := by
  intro a b lo hi h hl
  have := congrArg List.length (rec_words h hk hl)
  simp at this
  exact hn this
theorem not_rec_word {k : Int} {line : ByteArray} {j : Nat} (hk : 0 ≤ k ∧ k ≤ 29) (hj : j < (jrW line).length) (hn : ∀ v : Int, Lib.atoiAll (jrW line)[j].data.toList ≠ .ok v) : ∀ a b lo hi : Int, recB a b lo hi = true → lineS k a b lo hi ≠ line := by
  intro a b lo hi h hl
  have h1 := rec_words h hk hl
  unfold okNums at h1
  have h2 := congrArg (fun l => l[j]?) h1
  simp only [List.getElem?_map, List.getElem?_eq_getElem hj, Option.map_some] at h2
  cases h5 : [k, a, b, lo, hi][j]? with
  | none => rw [h5] at h2; cases h2
  | some v => rw [h5] at h2; exact hn v (Option.some.inj h2)
theorem not_rec_vals {k a b lo hi x0 : Int} {line : ByteArray} (hk : 0 ≤ k ∧ k ≤ 29) (hw : okNums (jrW line) [x0, a, b, lo, hi]) (hn : ¬ (recB a b lo hi = true ∧ lineS k a b lo hi = line)) : ∀ a b lo hi : Int, recB a b lo hi = true → lineS k a b lo hi ≠ line := by
  intro a' b' lo' hi' h hl
  have h1 := okNums_inj hw (rec_words h hk hl)
  simp only [List.cons.injEq, and_true] at h1
  obtain ⟨-, rfl, rfl, rfl, rfl⟩ := h1
  exact hn ⟨h, hl⟩
theorem drewN_below (w : World) (n : Nat) : Below w.heap.size w (w.drewN n) := ⟨rfl, rfl, rfl, Nat.le_refl _, fun _ _ => rfl⟩
theorem cut_any (line : ByteArray) (w : World) (hs : line.size ≤ 100000000) (h : Env w) : Calls Tryd.prog 17 #[.string line, .string ⟨#[35]⟩] w fun e w' => (∃ u b, e = .returned (.tuple #[.string (jrT line), .string u, .bool b])) ∧ Below w.heap.size w w' := by
  refine (Tryd.strings_Cut_shaped line ⟨#[35]⟩ w h.sh (by omega)).mono fun e w' hp => ?_
  obtain ⟨he, n, rfl⟩ := hp
  exact ⟨⟨_, _, he⟩, drewN_below w n⟩
theorem split_any (line : ByteArray) (w : World) (hs : line.size ≤ 100000000) (h : Env w) : Calls Tryd.prog 14 #[.string (jrT line), .string ⟨#[32]⟩] w fun e w' => e = .returned (.slice (some ⟨w.heap.size, 0, none⟩) (jrW line).length (jrW line).length) ∧ Blk w' w.heap.size 9 ((jrW line).map Value.string).toArray ∧ Below w.heap.size w w' := by
  refine (Tryd.strings_Split_shaped (jrT line) ⟨#[32]⟩ w h.sh (by have := jrT_size line; omega) (by decide)).mono fun e w' hp => ?_
  obtain ⟨he, rfl⟩ := hp
  rw [jrW_length]
  exact ⟨he, Blk.new w _ _, bal (Below.refl _ _) _⟩
end Go.Proofs.YticbmpjdcanjkaaDoor
