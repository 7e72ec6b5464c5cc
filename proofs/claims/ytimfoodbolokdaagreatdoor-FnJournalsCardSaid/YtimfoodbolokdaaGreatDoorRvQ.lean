/- Helpers of the laws of journals: what the functions return where the answer is known. Conditions: those of each theorem. Printed by gen_rvlaw.py. -/
import Derived.Test.YtimfoodbolokdaaGreatDoorRvP
import Derived.Test.YtimfoodbolokdaaGreatDoorSealR
import Derived.Test.YtimfoodbolokdaaGreatDoorCrashJ
import Derived.Test.YtimfoodbolokdaaGreatDoorJRecs
namespace Go.Proofs.YtimfoodbolokdaaGreatDoor
open Go Go.RowKit

theorem neqJn (D P : ByteArray) (W : World) : (binOp .neq 76 (.agg #[.string D, .string P]) (.agg #[.string D, .string P])).run Tryz.prog W = .ok (.bool false) W := by simp [go_sem]
theorem neqRc (x : Rc) (W : World) : (binOp .neq 78 (.agg #[.int .i64 x.a, .int .i64 x.b, .int .i64 x.lo, .int .i64 x.hi]) (.agg #[.int .i64 x.a, .int .i64 x.b, .int .i64 x.lo, .int .i64 x.hi])).run Tryz.prog W = .ok (.bool false) W := by simp [go_sem]
theorem implCr_is (D P : ByteArray) (k : Int) (torn : Bool) (s : ByteArray) (ok : Bool) (w : World) (e : crV D P k torn = (s, ok)) (h : JB D P) (hk : -9223372036854775808 ≤ k ∧ k ≤ 9223372036854775807) (he : Env w) :
    Calls Tryz.prog 72 #[.agg #[.string D, .string P], .int .i64 k, .bool torn] w fun e w' => e = .returned (.tuple #[.string s, .bool ok]) ∧ Below w.heap.size w w' := by
  have q := implCr_any D P k torn w h hk he
  rwa [e] at q
theorem specCr_is (D P : ByteArray) (k : Int) (torn : Bool) (s : ByteArray) (ok : Bool) (w : World) (e : crV D P k torn = (s, ok)) (h : JB D P) (hk : -9223372036854775808 ≤ k ∧ k ≤ 9223372036854775807) :
    Calls Tryz.prog 73 #[.agg #[.string D, .string P], .int .i64 k, .bool torn] w fun e w' => e = .returned (.tuple #[.string s, .bool ok]) ∧ Below w.heap.size w w' := by
  have q := specCr_any D P k torn w h hk
  rwa [e] at q
theorem implRecov_is (s d : ByteArray) (m : Nat) (k : Bool) (w : World) (e : reV s = (d, m, k)) (h : s.size ≤ 1048576) (he : Env w) :
    Calls Tryz.prog 75 #[.string s] w fun e w' => e = .returned (.tuple #[.agg #[.string d, .string ⟨#[]⟩], .int .i64 (m : Nat), .bool k]) ∧ Below w.heap.size w w' := by
  have q := implRecov_any s w h he
  rwa [e] at q
theorem specRecov_is (s d : ByteArray) (m : Nat) (k : Bool) (w : World) (e : reV s = (d, m, k)) (h : s.size ≤ 1048576) :
    Calls Tryz.prog 76 #[.string s] w fun e w' => e = .returned (.tuple #[.agg #[.string d, .string ⟨#[]⟩], .int .i64 (m : Nat), .bool k]) ∧ Below w.heap.size w w' := by
  have q := specRecov_any s w h
  rwa [e] at q
theorem implSeal_is (k a b lo hi : Int) (l : ByteArray) (ok : Bool) (w : World) (e : sealV k a b lo hi = (l, ok)) (ht : Tab w) :
    Calls Tryz.prog 78 #[.int .i64 k, .agg #[.int .i64 a, .int .i64 b, .int .i64 lo, .int .i64 hi]] w fun e w' => e = .returned (.tuple #[.string l, .bool ok]) ∧ Below w.heap.size w w' := by
  have q := implSeal_any k a b lo hi w ht
  rwa [e] at q
theorem specSeal_is (k a b lo hi : Int) (l : ByteArray) (ok : Bool) (w : World) (e : sealV k a b lo hi = (l, ok)) :
    Calls Tryz.prog 79 #[.int .i64 k, .agg #[.int .i64 a, .int .i64 b, .int .i64 lo, .int .i64 hi]] w fun e w' => e = .returned (.tuple #[.string l, .bool ok]) ∧ Below w.heap.size w w' := by
  have q := specSeal_any k a b lo hi w
  rwa [e] at q
theorem implIsJ_is (D P : ByteArray) (b : Bool) (w : World) (e : jrOk D P = b) (h : JB D P) (he : Env w) :
    Calls Tryz.prog 68 #[.agg #[.string D, .string P]] w fun e w' => e = .returned (.bool b) ∧ Below w.heap.size w w' := by
  have q := implIsJ_any D P w h he
  rwa [e] at q
theorem specJRecs_is (D P : ByteArray) (b : Bool) (es : List Rc) (w : World) (e : jrOk D P = b) (e2 : jrV D P = es) (h : JB D P) :
    Calls Tryz.prog 56 #[.agg #[.string D, .string P]] w fun e w' => (∃ v : Value, e = .returned (.tuple #[v, .bool b]) ∧ w'.ownsRow w.heap.size 78 4 v es.length (rcS.flat es)) ∧ Below w.heap.size w w' := by
  have q := specJRecs_any D P w h
  rwa [e, e2] at q
theorem implJRecs_is (D P : ByteArray) (b : Bool) (es : List Rc) (w : World) (e : jrOk D P = b) (e2 : jrV D P = es) (h : JB D P) (he : Env w) :
    Calls Tryz.prog 55 #[.agg #[.string D, .string P]] w fun e w' => (∃ v : Value, e = .returned (.tuple #[v, .bool b]) ∧ w'.ownsRow w.heap.size 78 4 v es.length (rcS.flat es)) ∧ Below w.heap.size w w' := by
  have q := implJRecs_any D P w h he
  rwa [e, e2] at q
theorem reV_size {s d : ByteArray} {n : Nat} (h : reV s = (d, n, true)) : s.size ≤ 4000 := by
  unfold reV at h
  split at h
  · assumption
  · simp at h
theorem jb_of {d : ByteArray} (h : d.size ≤ 1048576) : JB d ⟨#[]⟩ := ⟨by show d.size + 0 ≤ 1048576; omega⟩
end Go.Proofs.YtimfoodbolokdaaGreatDoor
