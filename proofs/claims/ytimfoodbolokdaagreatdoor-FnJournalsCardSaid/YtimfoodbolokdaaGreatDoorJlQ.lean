/- Helpers of the law FnJournals: what the functions return where the answer is known. Conditions: those of each theorem. Printed by gen_jllaw.py. -/
import Derived.Test.YtimfoodbolokdaaGreatDoorJlP
import Derived.Test.YtimfoodbolokdaaGreatDoorRvQ
import Derived.Test.YtimfoodbolokdaaGreatDoorQRc
import Derived.Test.YtimfoodbolokdaaGreatDoorJcI
import Derived.Test.YtimfoodbolokdaaGreatDoorJcS
import Derived.Test.YtimfoodbolokdaaGreatDoorBndsI
namespace Go.Proofs.YtimfoodbolokdaaGreatDoor
open Go Go.RowKit

theorem qRc_same (u v : Value) (es : List Rc) (w : World) (hu : Rd rcS w w.heap.size u es) (hv : Rd rcS w w.heap.size v es) :
    Calls Tryz.prog 67 #[u, v] w fun r w' => r = .returned (.bool true) ∧ Below w.heap.size w w' := by
  have h := qRc_any u v es es w hu hv
  rwa [decide_eq_true rfl] at h
theorem qEnJ_same (u v : Value) (es : List En) (w : World) (hu : Rd enS w w.heap.size u es) (hv : Rd enS w w.heap.size v es) :
    Calls Tryz.prog 22 #[u, v] w fun r w' => r = .returned (.bool true) ∧ Below w.heap.size w w' := by
  have h := qEn_any u v es es w hu hv
  rwa [decide_eq_true rfl] at h
theorem isCatJ_is (v : Value) (es : List En) (k : Bool) (w : World) (e : catB es = k) (h : Rd enS w w.heap.size v es) :
    Calls Tryz.prog 24 #[v] w fun e w' => e = .returned (.bool k) ∧ Below w.heap.size w w' := by
  subst e
  go_enter Tryz.func24, Tryz.ntmps24
  go_wp2_with (go_at_call 91; refine (isCatalogue_any _ _ _ h).mono ?_; rintro e w' ⟨rfl, hb1⟩)
  go_ret
  exact ⟨rfl, by (repeat (with_reducible first | exact Below.refl _ _ | assumption | refine bal ?_ _ | refine bst ?_ (by simp <;> omega) _ | refine Below.drew ?_ | refine bthen ?_ (by assumption)))⟩
theorem implIsRc_is (a b lo hi : Int) (k : Bool) (w : World) (e : recB a b lo hi = k) :
    Calls Tryz.prog 69 #[.agg #[.int .i64 a, .int .i64 b, .int .i64 lo, .int .i64 hi]] w fun e w' => e = .returned (.bool k) ∧ Below w.heap.size w w' := by
  subst e
  go_enter Tryz.func69, Tryz.ntmps69
  go_wp2_with (go_at_call 137; refine (isRecord_any _ _ _ _ _).mono ?_; rintro e w' ⟨rfl, hb1⟩)
  go_ret
  exact ⟨rfl, by (repeat (with_reducible first | exact Below.refl _ _ | assumption | refine bal ?_ _ | refine bst ?_ (by simp <;> omega) _ | refine Below.drew ?_ | refine bthen ?_ (by assumption)))⟩
theorem specIsRc_is (a b lo hi : Int) (k : Bool) (w : World) (e : recB a b lo hi = k) :
    Calls Tryz.prog 70 #[.agg #[.int .i64 a, .int .i64 b, .int .i64 lo, .int .i64 hi]] w fun e w' => e = .returned (.bool k) ∧ Below w.heap.size w w' := by
  subst e
  go_enter Tryz.func70, Tryz.ntmps70
  go_wp2_with (go_at_call 140; refine (jrRecord_any _ _ _ _ _).mono ?_; rintro e w' ⟨rfl, hb1⟩)
  go_ret
  exact ⟨rfl, by (repeat (with_reducible first | exact Below.refl _ _ | assumption | refine bal ?_ _ | refine bst ?_ (by simp <;> omega) _ | refine Below.drew ?_ | refine bthen ?_ (by assumption)))⟩
theorem implApp_is (D P : ByteArray) (a b lo hi : Int) (X Y : ByteArray) (ok : Bool) (w : World) (e : apV D P a b lo hi = (X, Y, ok)) (h : JB D P) (he : Env w) :
    Calls Tryz.prog 53 #[.agg #[.string D, .string P], .agg #[.int .i64 a, .int .i64 b, .int .i64 lo, .int .i64 hi]] w fun e w' => e = .returned (.tuple #[.agg #[.string X, .string Y], .bool ok]) ∧ Below w.heap.size w w' := by
  have q := implApp_any D P a b lo hi w h he
  rwa [e] at q
theorem specApp_is (D P : ByteArray) (a b lo hi : Int) (X Y : ByteArray) (ok : Bool) (w : World) (e : apV D P a b lo hi = (X, Y, ok)) (h : JB D P) :
    Calls Tryz.prog 54 #[.agg #[.string D, .string P], .agg #[.int .i64 a, .int .i64 b, .int .i64 lo, .int .i64 hi]] w fun e w' => e = .returned (.tuple #[.agg #[.string X, .string Y], .bool ok]) ∧ Below w.heap.size w w' := by
  have q := specApp_any D P a b lo hi w h
  rwa [e] at q
theorem implSync_is (D P : ByteArray) (X : ByteArray) (ok : Bool) (w : World) (e : syV D P = (X, ok)) (h : JB D P) (he : Env w) :
    Calls Tryz.prog 57 #[.agg #[.string D, .string P]] w fun e w' => e = .returned (.tuple #[.agg #[.string X, .string ⟨#[]⟩], .bool ok]) ∧ Below w.heap.size w w' := by
  have q := implSync_any D P w h he
  rwa [e] at q
theorem specSync_is (D P : ByteArray) (X : ByteArray) (ok : Bool) (w : World) (e : syV D P = (X, ok)) (h : JB D P) :
    Calls Tryz.prog 58 #[.agg #[.string D, .string P]] w fun e w' => e = .returned (.tuple #[.agg #[.string X, .string ⟨#[]⟩], .bool ok]) ∧ Below w.heap.size w w' := by
  have q := specSync_any D P w h
  rwa [e] at q
theorem implComp_is (D P : ByteArray) (X : ByteArray) (ok : Bool) (w : World) (e : coV D P = (X, ok)) (h : JB D P) (he : Env w) :
    Calls Tryz.prog 60 #[.agg #[.string D, .string P]] w fun e w' => e = .returned (.tuple #[.agg #[.string X, .string ⟨#[]⟩], .bool ok]) ∧ Below w.heap.size w w' := by
  have q := implComp_any D P w h he
  rwa [e] at q
theorem specComp_is (D P : ByteArray) (X : ByteArray) (ok : Bool) (w : World) (e : coV D P = (X, ok)) (h : JB D P) :
    Calls Tryz.prog 61 #[.agg #[.string D, .string P]] w fun e w' => e = .returned (.tuple #[.agg #[.string X, .string ⟨#[]⟩], .bool ok]) ∧ Below w.heap.size w w' := by
  have q := specComp_any D P w h
  rwa [e] at q
theorem implJc_is (D P : ByteArray) (es : List En) (ok : Bool) (w : World) (e : jcV D P = (es, ok)) (h : JB D P) (he : Env w) :
    Calls Tryz.prog 62 #[.agg #[.string D, .string P]] w fun e w' => (∃ v : Value, e = .returned (.tuple #[v, .bool ok]) ∧ w'.ownsRow w.heap.size 29 5 v es.length (enS.flat es)) ∧ Below w.heap.size w w' := by
  have q := implJc_any D P w h he
  rwa [e] at q
theorem specJc_is (D P : ByteArray) (es : List En) (ok : Bool) (w : World) (e : jcV D P = (es, ok)) (h : JB D P) :
    Calls Tryz.prog 63 #[.agg #[.string D, .string P]] w fun e w' => (∃ v : Value, e = .returned (.tuple #[v, .bool ok]) ∧ w'.ownsRow w.heap.size 29 5 v es.length (enS.flat es)) ∧ Below w.heap.size w w' := by
  have q := specJc_any D P w h
  rwa [e] at q
theorem implBn_is (D P : ByteArray) (a b : Int) (lo hi : Int) (ok : Bool) (w : World) (e : biV D P a b = (lo, hi, ok)) (h : JB D P) (he : Env w) :
    Calls Tryz.prog 65 #[.agg #[.string D, .string P], .agg #[.int .i64 a, .int .i64 b]] w fun e w' => e = .returned (.tuple #[.int .i64 lo, .int .i64 hi, .bool ok]) ∧ Below w.heap.size w w' := by
  have q := implBn_any D P a b w h he
  rwa [e] at q
theorem specBn_is (D P : ByteArray) (a b : Int) (lo hi : Int) (ok : Bool) (w : World) (e : biV D P a b = (lo, hi, ok)) (h : JB D P) :
    Calls Tryz.prog 66 #[.agg #[.string D, .string P], .agg #[.int .i64 a, .int .i64 b]] w fun e w' => e = .returned (.tuple #[.int .i64 lo, .int .i64 hi, .bool ok]) ∧ Below w.heap.size w w' := by
  have q := specBn_any D P a b w h
  rwa [e] at q
end Go.Proofs.YtimfoodbolokdaaGreatDoor
