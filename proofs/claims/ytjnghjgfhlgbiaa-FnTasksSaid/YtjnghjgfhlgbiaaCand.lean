/- The walks: the value of a curve, the point at a candidate, the candidates of a task. Conditions: bounds. -/
import Derived.Test.YtjnghjgfhlgbiaaSqrt
import Derived.Test.YtjnghjgfhlgbiaaGcd
import Derived.Test.YtjnghjgfhlgbiaaBase
namespace Go.Proofs.Ytjnghjgfhlgbiaa
open Go Go.RowKit

/-! ### The value at x and e -/
def cvI (a b x e : Int) : Int := x * x * x + a * x * e * e * e * e + b * e * e * e * e * e * e
theorem mul_sb {u v U V : Int} (h1 : -U ≤ u) (h2 : u ≤ U) (h3 : -V ≤ v) (h4 : v ≤ V) : -(U * V) ≤ u * v ∧ u * v ≤ U * V := by
  have a1 := Int.mul_nonneg (show 0 ≤ U - u by omega) (show 0 ≤ V + v by omega)
  have a2 := Int.mul_nonneg (show 0 ≤ U + u by omega) (show 0 ≤ V - v by omega)
  have a3 := Int.mul_nonneg (show 0 ≤ U - u by omega) (show 0 ≤ V - v by omega)
  have a4 := Int.mul_nonneg (show 0 ≤ U + u by omega) (show 0 ≤ V + v by omega)
  have e1 : (U - u) * (V + v) = U * V + U * v - u * V - u * v := by rw [Int.sub_mul, Int.mul_add, Int.mul_add]; omega
  have e2 : (U + u) * (V - v) = U * V - U * v + u * V - u * v := by rw [Int.add_mul, Int.mul_sub, Int.mul_sub]; omega
  have e3 : (U - u) * (V - v) = U * V - U * v - u * V + u * v := by rw [Int.sub_mul, Int.mul_sub, Int.mul_sub]; omega
  have e4 : (U + u) * (V + v) = U * V + U * v + u * V + u * v := by rw [Int.add_mul, Int.mul_add, Int.mul_add]; omega
  rw [e1] at a1; rw [e2] at a2; rw [e3] at a3; rw [e4] at a4
  generalize u * v = p at *; generalize U * V = q at *; generalize U * v = r at *; generalize u * V = s at *
  constructor <;> omega

structure CvB (a b x e : Int) : Prop where
  a : -1000 ≤ a ∧ a ≤ 1000
  b : -10000 ≤ b ∧ b ≤ 10000
  x : -10000 ≤ x ∧ x ≤ 10000
  e : 1 ≤ e ∧ e ≤ 20
theorem cv_small {a b x e : Int} (h : CvB a b x e) : cvI a b x e < 16000000000000 := by
  obtain ⟨⟨a1, a2⟩, ⟨b1, b2⟩, ⟨x1, x2⟩, ⟨e1, e2⟩⟩ := h
  have e1' : -20 ≤ e := by omega
  have p1 := mul_sb x1 x2 x1 x2
  have p2 := mul_sb p1.1 p1.2 x1 x2
  have q1 := mul_sb a1 a2 x1 x2
  have q2 := mul_sb q1.1 q1.2 e1' e2
  have q3 := mul_sb q2.1 q2.2 e1' e2
  have q4 := mul_sb q3.1 q3.2 e1' e2
  have q5 := mul_sb q4.1 q4.2 e1' e2
  have r1 := mul_sb b1 b2 e1' e2
  have r2 := mul_sb r1.1 r1.2 e1' e2
  have r3 := mul_sb r2.1 r2.2 e1' e2
  have r4 := mul_sb r3.1 r3.2 e1' e2
  have r5 := mul_sb r4.1 r4.2 e1' e2
  have r6 := mul_sb r5.1 r5.2 e1' e2
  unfold cvI
  omega

set_option maxRecDepth 8000 in
set_option maxHeartbeats 1600000 in
theorem curveValue_any (a b x e : Int) (w : World) (h : CvB a b x e) :
    Calls Try.prog 58 #[.agg #[.int .i64 a, .int .i64 b], .int .i64 x, .int .i64 e] w fun r w' => r = .returned (.int .i64 (cvI a b x e)) ∧ Below w.heap.size w w' := by
  obtain ⟨⟨a1, a2⟩, ⟨b1, b2⟩, ⟨x1, x2⟩, ⟨e1, e2⟩⟩ := h
  have e1' : -20 ≤ e := by omega
  have p1 := mul_sb x1 x2 x1 x2
  have p2 := mul_sb p1.1 p1.2 x1 x2
  have q1 := mul_sb a1 a2 x1 x2
  have q2 := mul_sb q1.1 q1.2 e1' e2
  have q3 := mul_sb q2.1 q2.2 e1' e2
  have q4 := mul_sb q3.1 q3.2 e1' e2
  have q5 := mul_sb q4.1 q4.2 e1' e2
  have r1 := mul_sb b1 b2 e1' e2
  have r2 := mul_sb r1.1 r1.2 e1' e2
  have r3 := mul_sb r2.1 r2.2 e1' e2
  have r4 := mul_sb r3.1 r3.2 e1' e2
  have r5 := mul_sb r4.1 r4.2 e1' e2
  have r6 := mul_sb r5.1 r5.2 e1' e2
  obtain ⟨p11, p12⟩ := p1; obtain ⟨p21, p22⟩ := p2
  obtain ⟨q11, q12⟩ := q1; obtain ⟨q21, q22⟩ := q2; obtain ⟨q31, q32⟩ := q3; obtain ⟨q41, q42⟩ := q4; obtain ⟨q51, q52⟩ := q5
  obtain ⟨r11, r12⟩ := r1; obtain ⟨r21, r22⟩ := r2; obtain ⟨r31, r32⟩ := r3; obtain ⟨r41, r42⟩ := r4; obtain ⟨r51, r52⟩ := r5; obtain ⟨r61, r62⟩ := r6
  simp only [Int.reduceMul] at p11 p12 p21 p22 q11 q12 q21 q22 q31 q32 q41 q42 q51 q52 r11 r12 r21 r22 r31 r32 r41 r42 r51 r52 r61 r62
  go_enter Try.func58, Try.ntmps58
  go_wp2
  go_ret
  exact ⟨rfl, by (repeat (with_reducible first | exact Below.refl _ _ | assumption | refine bal ?_ _ | refine bst ?_ (by simp <;> omega) _ | refine Below.drew ?_ | refine bthen ?_ (by assumption)))⟩
theorem cv_spec (a b x e : Int) : x * x * x + a * x * (e * e) * (e * e) + b * (e * e) * (e * e) * (e * e) = cvI a b x e := by
  unfold cvI
  rw [← Int.mul_assoc (a * x) e e, ← Int.mul_assoc (a * x * e * e) e e, ← Int.mul_assoc b e e, ← Int.mul_assoc (b * e * e) e e, ← Int.mul_assoc (b * e * e * e * e) e e]
set_option maxRecDepth 8000 in
set_option maxHeartbeats 1600000 in
theorem seValue_any (a b x e : Int) (w : World) (h : CvB a b x e) :
    Calls Try.prog 66 #[.agg #[.int .i64 a, .int .i64 b], .int .i64 x, .int .i64 e] w fun r w' => r = .returned (.int .i64 (cvI a b x e)) ∧ Below w.heap.size w w' := by
  rw [← cv_spec]
  obtain ⟨⟨a1, a2⟩, ⟨b1, b2⟩, ⟨x1, x2⟩, ⟨e1, e2⟩⟩ := h
  have e1' : -20 ≤ e := by omega
  have s1 := mul_sb e1' e2 e1' e2
  have p1 := mul_sb x1 x2 x1 x2
  have p2 := mul_sb p1.1 p1.2 x1 x2
  have q1 := mul_sb a1 a2 x1 x2
  have q2 := mul_sb q1.1 q1.2 s1.1 s1.2
  have q3 := mul_sb q2.1 q2.2 s1.1 s1.2
  have r1 := mul_sb b1 b2 s1.1 s1.2
  have r2 := mul_sb r1.1 r1.2 s1.1 s1.2
  have r3 := mul_sb r2.1 r2.2 s1.1 s1.2
  obtain ⟨s11, s12⟩ := s1; obtain ⟨p11, p12⟩ := p1; obtain ⟨p21, p22⟩ := p2
  obtain ⟨q11, q12⟩ := q1; obtain ⟨q21, q22⟩ := q2; obtain ⟨q31, q32⟩ := q3
  obtain ⟨r11, r12⟩ := r1; obtain ⟨r21, r22⟩ := r2; obtain ⟨r31, r32⟩ := r3
  simp only [Int.reduceMul] at s11 s12 p11 p12 p21 p22 q11 q12 q21 q22 q31 q32 r11 r12 r21 r22 r31 r32
  go_enter Try.func66, Try.ntmps66
  go_wp2
  go_ret
  exact ⟨rfl, by (repeat (with_reducible first | exact Below.refl _ _ | assumption | refine bal ?_ _ | refine bst ?_ (by simp <;> omega) _ | refine Below.drew ?_ | refine bthen ?_ (by assumption)))⟩

/-! ### The point at x and e -/
def ptO (a b x e : Int) : Option Pt := if gcdI x e = 1 ∧ rootK (cvI a b x e) = true then some ⟨x, rootV (cvI a b x e), e⟩ else none
theorem gcdI_abs (x e : Int) : gcdI (max x (-x)) e = gcdI x e := by
  unfold gcdI
  rw [show (max x (-x)).natAbs = x.natAbs by omega]
/-- What sePoint hands back. -/
def PtR (o : Option Pt) (r : Ending) : Prop := match o with
  | none => r = .returned (.tuple #[.agg #[.int .i64 0, .int .i64 0, .int .i64 0], .bool false])
  | some p => r = .returned (.tuple #[.agg #[.int .i64 p.x, .int .i64 p.y, .int .i64 p.e], .bool true])
set_option maxRecDepth 8000 in
set_option maxHeartbeats 1600000 in
theorem sePoint_any (a b x e : Int) (w : World) (h : CvB a b x e) :
    Calls Try.prog 59 #[.agg #[.int .i64 a, .int .i64 b], .int .i64 x, .int .i64 e] w fun r w' => PtR (ptO a b x e) r ∧ Below w.heap.size w w' := by
  have hcv := cv_small h
  have hg := gcdI_abs x e
  have Hval := Lib.hid (fun w => seValue_any a b x e w h)
  have Hroot := Lib.hid (fun w => seRoot_any (cvI a b x e) w hcv)
  obtain ⟨-, -, ⟨x1, x2⟩, ⟨e1, e2⟩⟩ := h
  have Habs := Lib.hid (fun w => l1Abs_any x w (by omega))
  have Hcom := Lib.hid (fun w => bgCommon_any (max x (-x)) e w (by omega) (by omega))
  rw [hg] at Hcom
  clear hg hcv
  have HbA := Lib.hid (show Below w.heap.size w ((w.alloc (Obj.cells #[.int .i64 a, .int .i64 b] 25)).alloc (Obj.cells #[.int .i64 0, .int .i64 0, .int .i64 0] 62)) from bal (bal (Below.refl _ _) _) _)
  by_cases hg1 : gcdI x e = 1
  · have hne : (gcdI x e != 1) = false := by simp [hg1]
    cases hk : rootK (cvI a b x e)
    · have HO := Lib.hid (show PtR (ptO a b x e) (.returned (.tuple #[.agg #[.int .i64 0, .int .i64 0, .int .i64 0], .bool false])) by unfold ptO; rw [if_neg (by simp [hk])]; exact rfl)
      have hrs : rootS (cvI a b x e) = -1 := by unfold rootS; rw [hk]; rfl
      rw [hrs] at Hroot
      clear hrs hk hg1
      go_enter Try.func59, Try.ntmps59
      go_wp2_with (first | (go_at_call 64; refine (Habs.out _).mono ?_; rintro r w' ⟨rfl, rfl⟩) | (go_at_call 63; refine (Hcom.out _).mono ?_; rintro r w' ⟨rfl, rfl⟩) | (go_at_call 66; refine (Hval.out _).mono ?_; rintro r w1 ⟨rfl, hb1⟩; obtain ⟨hc1, hf1⟩ := bcell hb1; have hz1 := hb1.size; simp only [World.size_alloc] at hz1; have hb2 := bthen HbA.out hb1) | (go_at_call 65; refine (Hroot.out _).mono ?_; rintro r w' ⟨rfl, rfl⟩))
      exact bodyPost_ret (v := .tuple #[.agg #[.int .i64 0, .int .i64 0, .int .i64 0], .bool false]) (by simp [results, Try.results59, go_sem, hc1]) rfl ⟨HO.out, by repeat (with_reducible first | exact hb2 | (refine bst ?_ (by first | omega | (simp; done) | (simp; omega)) _))⟩
    · have HO := Lib.hid (show PtR (ptO a b x e) (.returned (.tuple #[.agg #[.int .i64 x, .int .i64 (fsq (cvI a b x e).toNat : Int), .int .i64 e], .bool true])) by unfold ptO; rw [if_pos ⟨hg1, hk⟩]; simp only [PtR, rootV, hk, if_true])
      have hrs : rootS (cvI a b x e) = (fsq (cvI a b x e).toNat : Int) := by unfold rootS; rw [hk]; rfl
      rw [hrs] at Hroot
      clear hrs hk hg1
      have hnn : (0 : Int) ≤ (fsq (cvI a b x e).toNat : Int) := by omega
      go_enter Try.func59, Try.ntmps59
      go_wp2_with (first | (go_at_call 64; refine (Habs.out _).mono ?_; rintro r w' ⟨rfl, rfl⟩) | (go_at_call 63; refine (Hcom.out _).mono ?_; rintro r w' ⟨rfl, rfl⟩) | (go_at_call 66; refine (Hval.out _).mono ?_; rintro r w1 ⟨rfl, hb1⟩; obtain ⟨hc1, hf1⟩ := bcell hb1; have hz1 := hb1.size; simp only [World.size_alloc] at hz1; have hb2 := bthen HbA.out hb1) | (go_at_call 65; refine (Hroot.out _).mono ?_; rintro r w' ⟨rfl, rfl⟩))
      exact bodyPost_ret (v := .tuple #[.agg #[.int .i64 x, .int .i64 (fsq (cvI a b x e).toNat : Int), .int .i64 e], .bool true]) (by simp [results, Try.results59, go_sem, hc1]) rfl ⟨HO.out, by repeat (with_reducible first | exact hb2 | (refine bst ?_ (by first | omega | (simp; done) | (simp; omega)) _))⟩
  · have hne : (gcdI x e != 1) = true := by simp [hg1]
    have HO := Lib.hid (show PtR (ptO a b x e) (.returned (.tuple #[.agg #[.int .i64 0, .int .i64 0, .int .i64 0], .bool false])) by unfold ptO; rw [if_neg (fun h => hg1 h.1)]; exact rfl)
    clear hg1
    go_enter Try.func59, Try.ntmps59
    go_wp2_with (first | (go_at_call 64; refine (Habs.out _).mono ?_; rintro r w' ⟨rfl, rfl⟩) | (go_at_call 63; refine (Hcom.out _).mono ?_; rintro r w' ⟨rfl, rfl⟩) | (go_at_call 66; refine (Hval.out _).mono ?_; rintro r w1 ⟨rfl, hb1⟩; obtain ⟨hc1, hf1⟩ := bcell hb1; have hz1 := hb1.size; simp only [World.size_alloc] at hz1; have hb2 := bthen HbA.out hb1) | (go_at_call 65; refine (Hroot.out _).mono ?_; rintro r w' ⟨rfl, rfl⟩))
    exact bodyPost_ret (v := .tuple #[.agg #[.int .i64 0, .int .i64 0, .int .i64 0], .bool false]) (by simp [results, Try.results59, go_sem]) rfl ⟨HO.out, by repeat (with_reducible first | exact HbA.out | (refine bst ?_ (by first | omega | (simp; done) | (simp; omega)) _))⟩
end Go.Proofs.Ytjnghjgfhlgbiaa
