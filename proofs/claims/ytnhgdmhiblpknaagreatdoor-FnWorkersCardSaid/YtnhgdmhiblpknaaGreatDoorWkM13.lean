/- Own texts put together: SearchPoints of the program and of the reference, where a task's bounds hold: all hits of the task; Helpers of the law FnTasks: what a step, a crash, a search return where the answer is known; The program's reader of a record's line: the walk; The laws' own helpers at slices of Curve: what they compute. Conditions: those of each theorem. -/
import Derived.Test.YtnhgdmhiblpknaaGreatDoorWkM4
import Derived.Test.YtnhgdmhiblpknaaGreatDoorWkM5
import Derived.Test.YtnhgdmhiblpknaaGreatDoorWkM11
import Derived.Test.YtnhgdmhiblpknaaGreatDoorWkM12
import Derived.Test.YtnhgdmhiblpknaaGreatDoorWkM2
import Derived.Test.YtnhgdmhiblpknaaGreatDoorWkM1
namespace Go.Proofs.YtnhgdmhiblpknaaGreatDoor
section
open Go Go.RowKit

theorem row_cand {m e k F : Int} (hF : F = (e - 1) * (2 * m + 1)) (h1 : F ≤ k) (h2 : k < F + (2 * m + 1)) : cxI m k = k - F - m ∧ ceI m k = e := by
  have hk : k = (k - F) + (2 * m + 1) * (e - 1) := by rw [Int.mul_comm, ← hF]; omega
  have h3 : k % (2 * m + 1) = k - F := by
    rw [hk, Int.add_mul_emod_self_left]
    have : (k - F + (2 * m + 1) * (e - 1)) - F = k - F := by omega
    rw [this]
    exact Int.emod_eq_of_lt (by omega) (by omega)
  have h4 : k / (2 * m + 1) = e - 1 := by
    rw [hk, Int.add_mul_ediv_left _ _ (by omega), Int.ediv_eq_zero_of_lt (by omega) (by omega)]
    omega
  unfold cxI ceI
  rw [h3, h4]
  constructor <;> omega
structure RowB (m d e F : Int) : Prop where
  bm : 0 ≤ m ∧ m ≤ 200
  be : 1 ≤ e ∧ e ≤ 10
  eq : F = (e - 1) * (2 * m + 1)
  lo : 0 ≤ F
  hi : F + (2 * m + 1) ≤ totI m d
theorem RowB.mk' {a b m d e F : Int} (ht : TkB a b m d) (h1 : 1 ≤ e) (h2 : e ≤ d) (hF : F = (e - 1) * (2 * m + 1)) : RowB m d e F := by
  have hm := ht.m
  have hd := ht.d
  refine ⟨hm, ⟨h1, by omega⟩, hF, ?_, ?_⟩
  · rw [hF]; exact Int.mul_nonneg (by omega) (by omega)
  · unfold totI
    have h3 := Int.mul_nonneg (show 0 ≤ d - e by omega) (show 0 ≤ 2 * m + 1 by omega)
    have h4 : F + (2 * m + 1) = e * (2 * m + 1) := by rw [hF, Int.sub_mul]; omega
    rw [h4]
    rw [Int.sub_mul] at h3
    omega



theorem hitsZ_app {a b m F L : Int} (h0 : 0 ≤ F) (h1 : F ≤ L) : hitsZ a b m 0 F ++ hitsZ a b m F L = hitsZ a b m 0 L := by
  unfold hitsZ
  have e : (L - 0).toNat = (F - 0).toNat + (L - F).toNat := by omega
  rw [e, hitsN_add]
  have e2 : (0 : Int) + ((F - 0).toNat : Int) = F := by omega
  rw [e2]
theorem own_src {w : World} {base : Nat} {t : TypeId} {size n c : Nat} {A : Option Addr} {xs : List Value} (h : w.ownsRow base t size (.slice A n c) n xs) :
    (A = none → n = 0) ∧ ∀ a, A = some a → ∀ j u, xs[j]? = some u → w.cell? (a.add j) = some u := by
  have h1 := h
  rcases h.2 with ⟨h', h0⟩ | ⟨g', cap', cur, h', -⟩
  · injection h' with h2 h3
    exact ⟨fun _ => h3, fun a ha => by rw [h2] at ha; cases ha⟩
  · injection h' with h2 h3
    subst h2
    refine ⟨fun e => (by cases e), fun a ha j u hu => ?_⟩
    injection ha with ha
    subst ha
    have hj : j < xs.length := (List.getElem?_eq_some_iff.1 hu).1
    have h7 := h1.cellAt j (by rw [← h1.1]; exact hj)
    rw [hu] at h7
    by_cases h8 : j = 0
    · subst h8; simpa [Addr.add] using h7
    · simpa [Addr.add, h8] using h7
theorem pt_ones (es : List Pt) : ∀ u ∈ ptS.flat es, u.oneCell' = true := by
  intro u hu
  unfold Shape.flat at hu
  obtain ⟨p, -, hp⟩ := List.mem_flatMap.1 hu
  rw [show ptS.cells p = [.int .i64 p.x, .int .i64 p.y, .int .i64 p.e] by simp [Shape.cells, ptS, List.range_succ]] at hp
  simp only [List.mem_cons, List.not_mem_nil, or_false] at hp
  rcases hp with rfl | rfl | rfl <;> rfl
theorem own_formS {w : World} {b : Nat} {t : TypeId} {z : Nat} {v : Value} {n : Nat} {xs : List Value} (h : w.ownsRow b t z v n xs) : ∃ A c, v = .slice A n c := by
  rcases h.2 with ⟨h', h0⟩ | ⟨g', cap', cur, h', _⟩
  · exact ⟨none, 0, by rw [h', h0]⟩
  · exact ⟨_, _, h'⟩







end
section
open Go Go.RowKit

theorem TkRet.at {V : Int × Int × Int × Int × Int × List Pt × Bool} {base : Nat} {r : Ending} {w' : World} {A B M D T : Int} {L : List Pt} {k : Bool} (h : TkRet V base r w') (e : V = (A, B, M, D, T, L, k)) :
    ∃ X c, r = .returned (.tuple #[.agg #[.int .i64 A, .int .i64 B, .int .i64 M, .int .i64 D, .int .i64 T, .slice X L.length c], .bool k]) ∧ w'.ownsRow base 117 3 (.slice X L.length c) L.length (ptS.flat L) := by
  obtain ⟨A0, B0, M0, D0, T0, L0, k0, v0, rfl, h1, h2⟩ := h
  have h3 := h1.symm.trans e
  simp only [Prod.mk.injEq] at h3
  obtain ⟨rfl, rfl, rfl, rfl, rfl, rfl, rfl⟩ := h3
  obtain ⟨X, c, rfl⟩ := own_formS h2
  exact ⟨X, c, rfl, h2⟩
theorem step_or (a b m d t : Int) (fs : List Pt) (n : Int) : stepV a b m d t fs n = zeroT ∨ (tkG a b m d t fs = true ∧ 0 ≤ n ∧ n ≤ 5000) := by
  cases h : (tkG a b m d t fs && insB n 0 5000)
  · left; unfold stepV; rw [h]; rfl
  · right
    simp only [Bool.and_eq_true] at h
    exact ⟨h.1, (insB_true h.2).1, (insB_true h.2).2⟩
theorem crash_or (a b m d t : Int) (fs : List Pt) (n : Int) : crashV a b m d t fs n = zeroT ∨ ∃ T L, crashV a b m d t fs n = (a, b, m, d, T, L, true) := by
  cases h : (tkG a b m d t fs && insB n 1 5000)
  · left; unfold crashV; rw [h]; rfl
  · right; unfold crashV; rw [h]; exact ⟨_, _, rfl⟩
theorem implIsTk_is (a b m d t : Int) (v : Value) (fs : List Pt) (k : Bool) (w : World) (e : tkG a b m d t fs = k) (hv : Rd ptS w w.heap.size v fs) :
    Calls Tryz.prog 40 #[.agg #[.int .i64 a, .int .i64 b, .int .i64 m, .int .i64 d, .int .i64 t, v]] w fun r w' => r = .returned (.bool k) ∧ Below w.heap.size w w' := by
  subst e; exact implIsTask_any a b m d t v fs w hv
theorem implRest_is (a b m d t : Int) (v : Value) (fs : List Pt) (x : Int) (k : Bool) (w : World) (e : restV a b m d t fs = (x, k)) (hv : Rd ptS w w.heap.size v fs) :
    Calls Tryz.prog 34 #[.agg #[.int .i64 a, .int .i64 b, .int .i64 m, .int .i64 d, .int .i64 t, v]] w fun r w' => r = .returned (.tuple #[.int .i64 x, .bool k]) ∧ Below w.heap.size w w' := by
  have h := implRest_any a b m d t v fs w hv
  rwa [e] at h
end
section
open Go Go.RowKit

theorem infoIntR : (Tryz.prog.info? 3).map (fun i => (i.zero, i.size, i.bytes)) = some (some (.int .i64 0), 1, 8) := by kernel_rfl
theorem splitB_size (sep : ByteArray) : ∀ (k : Nat) (s : ByteArray), ∀ x ∈ Lib.splitB sep 0 k s, x.size ≤ s.size
  | 0, s, x, h => by
    have : x = s := by simpa [Lib.splitB] using h
    rw [this]; exact Nat.le_refl _
  | k + 1, s, x, h => by
    unfold Lib.splitB at h
    split at h
    · have : x = s := by simpa using h
      rw [this]; exact Nat.le_refl _
    · rcases List.mem_cons.1 h with rfl | h
      · rw [ByteArray.size_extract]; omega
      · have := splitB_size sep k _ x h
        rw [ByteArray.size_extract] at this
        omega
theorem jrW_size {line : ByteArray} {j : Nat} (h : j < (jrW line).length) : (jrW line)[j].size ≤ line.size :=
  Nat.le_trans (splitB_size _ _ _ _ (List.getElem_mem h)) (jrT_size line)
theorem own_form {w : World} {b : Nat} {t : TypeId} {z : Nat} {v : Value} {n : Nat} {xs : List Value} (h : w.ownsRow b t z v n xs) : ∃ A c, v = .slice A n c := by
  rcases h.2 with ⟨h', h0⟩ | ⟨g', cap', cur, h', _⟩
  · exact ⟨none, 0, by rw [h', h0]⟩
  · exact ⟨_, _, h'⟩
theorem bytes_inj {a b : ByteArray} (h : a.toList = b.toList) : a = b := by
  rw [ByteArray.toList_eq, ByteArray.toList_eq] at h
  obtain ⟨⟨a⟩⟩ := a; obtain ⟨⟨b⟩⟩ := b
  exact congrArg (fun l => ByteArray.mk ⟨l⟩) h
def cv (w : World) (a : Addr) : Value := (w.cell? a).getD (.int .i64 0)
theorem list5r {xs : List Int} (h : xs.length = 5) : ∃ a b c d e, xs = [a, b, c, d, e] := by
  match xs, h with
  | [a, b, c, d, e], _ => exact ⟨a, b, c, d, e, rfl⟩
theorem RdP.no {k : Int} {line : ByteArray} (h : ∀ a b lo hi : Int, recB a b lo hi = true → lineS k a b lo hi ≠ line) (a b lo hi : Int) : RdP k line (.returned (.tuple #[.agg #[.int .i64 a, .int .i64 b, .int .i64 lo, .int .i64 hi], .bool false])) := Or.inr ⟨h, a, b, lo, hi, rfl⟩
theorem RdP.yes {k : Int} {line : ByteArray} {a b lo hi : Int} (h : recB a b lo hi = true) (hl : lineS k a b lo hi = line) : RdP k line (.returned (.tuple #[.agg #[.int .i64 a, .int .i64 b, .int .i64 lo, .int .i64 hi], .bool true])) := Or.inl ⟨a, b, lo, hi, h, hl, rfl⟩
end
section
open Go Go.RowKit

end
end Go.Proofs.YtnhgdmhiblpknaaGreatDoor
