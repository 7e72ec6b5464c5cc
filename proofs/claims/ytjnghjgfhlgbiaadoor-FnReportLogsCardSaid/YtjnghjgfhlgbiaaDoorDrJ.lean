/- The reference's draws of lists of reports. Conditions: a slice of bytes. Printed by gen_drj.py. -/
import Derived.Test.YtjnghjgfhlgbiaaDoorDrB
import Derived.Test.YtjnghjgfhlgbiaaDoorDrR
import Derived.Test.YtjnghjgfhlgbiaaDoorApp3
namespace Go.Proofs.YtjnghjgfhlgbiaaDoor
open Go Go.RowKit

/-- Two rows of reports of a call's own. -/
structure TwoR (w : World) (B : Nat) (e : Ending) : Prop where
  ex : ∃ (v1 : Value) (m1 : Nat) (v2 : Value) (m2 : Nat), m1 ≤ 22 ∧ m2 ≤ 22 ∧ e = .returned (.tuple #[v1, v2]) ∧ IR w B 30 7 v1 m1 ∧ IR w B 30 7 v2 m2
theorem IR.kept {w w' : World} {B : Nat} {t : TypeId} {z n : Nat} {v : Value} {r : Option Nat} (h : IR w B t z v n) (hg : w.grownBy w' r) (hne : v.ownBlock = none ∨ v.ownBlock ≠ r) : IR w' B t z v n :=
  let ⟨xs, h1, h2⟩ := h.ex; ⟨xs, World.ownsRow.kept h1 hg hne, h2⟩
/-- One row of reports of a call's own. -/
structure OneR (w : World) (B : Nat) (e : Ending) : Prop where
  ex : ∃ (v : Value) (m : Nat), m ≤ 22 ∧ e = .returned v ∧ IR w B 30 7 v m

set_option linter.unusedSimpArgs false in
set_option maxRecDepth 8000 in
set_option maxHeartbeats 16000000 in
theorem drawAre_any (A : Option Addr) (n c : Nat) (w : World) (hby : BytesAt w w.heap.size A n) :
    Calls Tryd.prog 45 #[.slice A n c] w fun e w' => OneR w' w.heap.size e ∧ Below w.heap.size w w' := by
  have Hb := Lib.hid hby; clear hby
  have Hgl := Lib.hid (Nat.le_refl w.heap.size)
  have Hd := Lib.hid (Dg.refl w.heap.size w)
  go_enter Tryd.func45, Tryd.ntmps45
  go_wp2_with fail
  refine (reports_any w.heap.size 0 _ (Cur.new0 Hb.out c) (by omega)).mono ?_; rintro e w1 ⟨⟨v, m, hm, rfl, hv⟩, hc1, hd1⟩
  have S1 := Lib.hid (show w.heap.size + 1 ≤ w1.heap.size by have h9 := hd1.size; (try simp only [World.size_alloc, World.size_setCell] at h9); omega)
  have Hc1 := Lib.hid (hc1.mono (j := 0 + 3000) (by omega))
  have Hd1 := Lib.hid ((Hd.out.alloc _).trans hd1)
  clear hc1 hd1
  go_wp2
  go_ret
  exact ⟨⟨v, m, hm, rfl, hv.mono (by have := S1.out; simp)⟩, Hd1.out.below (by have := S1.out; omega) (Nat.le_refl _)⟩
theorem drawReportsText_any (A : Option Addr) (n c : Nat) (w : World) (hby : BytesAt w w.heap.size A n) :
    Calls Tryd.prog 17 #[.slice A n c] w fun e w' => OneR w' w.heap.size e ∧ Below w.heap.size w w' := by
  go_enter Tryd.func17, Tryd.ntmps17
  go_wp2_with fail
  refine (drawAre_any A n c _ hby).mono ?_; rintro e w1 ⟨⟨v, m, hm, rfl, hv⟩, hb⟩
  go_wp2
  go_ret
  exact ⟨⟨v, m, hm, rfl, hv⟩, hb⟩
end Go.Proofs.YtjnghjgfhlgbiaaDoor
