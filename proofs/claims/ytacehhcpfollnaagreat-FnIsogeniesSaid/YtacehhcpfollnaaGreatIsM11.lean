/- Own texts put together: Numbers of points modulo 5, 7, 11, 13: the same for a scaled curve and for a neighbour; Numbers of points modulo p out of the residues; Residues: sums, products, opposites; the raw neighbour's residues; A neighbour has as many points modulo 5, 7, 11, 13, where the curve is good there; Residues: the walks of both sides (residue, power, symbol, primes); Primes, and the number of points modulo 5, 7, 11 and 13: the walks of both sides; The number of points modulo 5, 7, 11 and 13: the walks of both sides; Good primes, the number of points modulo 5, 7, 11 and 13, both sides; The program's neighbours and carried points; The plain facts that the law FnIsogenies wants of its answers. Conditions: those of each theorem. -/
import Derived.Test.YtacehhcpfollnaaGreatIsM1
import Derived.Test.YtacehhcpfollnaaGreatIsM2
import Derived.IntWalk
import Derived.Test.YtacehhcpfollnaaGreatIsM8
import Derived.Test.YtacehhcpfollnaaGreatIsM10
namespace Go.Proofs.YtacehhcpfollnaaGreat
section
open Go

/-- The squares' symbol modulo p. -/
def symN (p n : Nat) : Int := if n == 0 then 0 else if (List.range p).any (fun y => y * y % p == n) then 1 else -1
def cntN (p A B : Nat) : Int := (List.range p).foldl (fun s x => s + symN p ((x * x * x + A * x + B) % p)) ((p : Int) + 1)
def scaleOk (p : Nat) : Bool := (List.range p).all fun A => (List.range p).all fun B => (List.range p).all fun u => u == 0 || cntN p (u * u * u * u * A % p) (u * u * u * u * u * u * B % p) == cntN p A B
/-- B from A and the root e; the raw neighbour; the discriminant's part. -/
def negN (p x : Nat) : Nat := (p - x % p) % p
def rootB (p A e : Nat) : Nat := negN p (e * e * e + A * e)
def rawTN (p A e : Nat) : Nat := (3 * e * e + A) % p
def rawAN (p A e : Nat) : Nat := (A + negN p (5 * rawTN p A e)) % p
def rawBN (p A e : Nat) : Nat := (rootB p A e + negN p (7 * e * rawTN p A e)) % p
def discN (p A B : Nat) : Nat := (4 * A * A * A + 27 * B * B) % p
def isoOk (p : Nat) : Bool := (List.range p).all fun A => (List.range p).all fun e => discN p A (rootB p A e) == 0 || cntN p (rawAN p A e) (rawBN p A e) == cntN p A (rootB p A e)
theorem scale5 : scaleOk 5 = true := by decide +kernel
theorem scale7 : scaleOk 7 = true := by decide +kernel
theorem scale11 : scaleOk 11 = true := by decide +kernel
theorem scale13 : scaleOk 13 = true := by decide +kernel
theorem iso5 : isoOk 5 = true := by decide +kernel
theorem iso7 : isoOk 7 = true := by decide +kernel
theorem iso11 : isoOk 11 = true := by decide +kernel
theorem iso13 : isoOk 13 = true := by decide +kernel
end
section
open Go

/-- The number of points, as the program has it: residues of whole numbers. -/
def cntV (p : Nat) (a b : Int) : Int := (List.range p).foldl (fun s (x : Nat) => s + symN p (((x : Int) * x * x + a * x + b) % (p : Int)).toNat) ((p : Int) + 1)
def resN (p : Nat) (a : Int) : Nat := (a % (p : Int)).toNat
theorem resN_cast {p : Nat} (hp : 0 < p) (a : Int) : ((resN p a : Nat) : Int) = a % (p : Int) := by
  unfold resN
  have := Int.emod_nonneg a (b := (p : Int)) (by omega)
  omega
theorem resN_lt {p : Nat} (hp : 0 < p) (a : Int) : resN p a < p := by
  have h1 := resN_cast hp a
  have h2 := Int.emod_lt_of_pos a (b := (p : Int)) (by omega)
  omega
theorem term_res {p : Nat} (hp : 0 < p) (a b : Int) (x : Nat) : (((x : Int) * x * x + a * x + b) % (p : Int)).toNat = (x * x * x + resN p a * x + resN p b) % p := by
  have h : ((x : Int) * x * x + a * x + b) % (p : Int) = ((x * x * x + resN p a * x + resN p b : Nat) : Int) % (p : Int) := by
    rw [Int.natCast_add, Int.natCast_add, Int.natCast_mul, Int.natCast_mul, Int.natCast_mul, resN_cast hp, resN_cast hp]
    refine Int.emod_eq_emod_iff_emod_sub_eq_zero.2 (Int.emod_eq_zero_of_dvd ⟨a / p * x + b / p, ?_⟩)
    have h1 := Int.mul_ediv_add_emod a (p : Int)
    have h2 := Int.mul_ediv_add_emod b (p : Int)
    generalize a / (p : Int) = q1 at *
    generalize b / (p : Int) = q2 at *
    generalize a % (p : Int) = r1 at *
    generalize b % (p : Int) = r2 at *
    subst h1; subst h2
    grind
  rw [h, ← Int.natCast_emod, Int.toNat_natCast]
theorem cntV_res {p : Nat} (hp : 0 < p) (a b : Int) : cntV p a b = cntN p (resN p a) (resN p b) := by
  unfold cntV cntN
  congr 1
  funext s x
  rw [term_res hp]
end
section
open Go

def Cg (p : Nat) (z : Int) (n : Nat) : Prop := ∃ k : Int, z = (n : Int) + (p : Int) * k
section
variable {p : Nat} {z y : Int} {n m : Nat}
theorem Cg.res (hp : 0 < p) (z : Int) : Cg p z (resN p z) := ⟨z / p, by rw [resN_cast hp]; have := Int.emod_add_mul_ediv z p; omega⟩
theorem Cg.add (h : Cg p z n) (k : Cg p y m) : Cg p (z + y) (n + m) := by
  obtain ⟨a, rfl⟩ := h; obtain ⟨b, rfl⟩ := k
  exact ⟨a + b, by rw [Int.natCast_add]; grind⟩
theorem Cg.mul (h : Cg p z n) (k : Cg p y m) : Cg p (z * y) (n * m) := by
  obtain ⟨a, rfl⟩ := h; obtain ⟨b, rfl⟩ := k
  exact ⟨n * b + a * m + p * a * b, by rw [Int.natCast_mul]; grind⟩
theorem Cg.nat (n : Nat) : Cg p (n : Int) n := ⟨0, by omega⟩
theorem Cg.mod (h : Cg p z n) : Cg p z (n % p) := by
  obtain ⟨a, rfl⟩ := h
  refine ⟨a + (n / p : Nat), ?_⟩
  have := Nat.mod_add_div n p
  have h2 : ((n % p : Nat) : Int) + (p : Int) * ((n / p : Nat) : Int) = n := by rw [← Int.natCast_mul, ← Int.natCast_add, this]
  grind
theorem Cg.neg (hp : 0 < p) (h : Cg p z n) : Cg p (-z) (negN p n) := by
  unfold negN
  refine Cg.mod ?_
  obtain ⟨a, ha⟩ := h.mod
  have hlt := Nat.mod_lt n hp
  refine ⟨-a - 1, ?_⟩
  have : ((p - n % p : Nat) : Int) = (p : Int) - ((n % p : Nat) : Int) := by omega
  rw [this, ha]
  grind
theorem Cg.eq (h : Cg p z n) : resN p z = n % p := by
  obtain ⟨a, rfl⟩ := h
  unfold resN
  rw [Int.add_mul_emod_self_left, ← Int.natCast_emod, Int.toNat_natCast]
theorem Cg.eq2 (h : Cg p z n) (hn : n < p) : resN p z = n := by rw [h.eq, Nat.mod_eq_of_lt hn]
end
theorem negN_lt {p x : Nat} (hp : 0 < p) : negN p x < p := Nat.mod_lt _ hp
theorem res_rootB {p : Nat} (hp : 0 < p) {a b e : Int} (he : evZ a b e = 0) : resN p b = rootB p (resN p a) (resN p e) := by
  have hb : b = -(e * e * e + a * e) := by unfold evZ at he; grind
  rw [hb]
  have E := Cg.res hp e
  have A := Cg.res hp a
  exact (((E.mul E).mul E).add (A.mul E)).neg hp |>.eq2 (negN_lt hp)
theorem res_rawT {p : Nat} (hp : 0 < p) (a e : Int) : Cg p (nbT a e) (rawTN p (resN p a) (resN p e)) := by
  have E := Cg.res hp e
  have A := Cg.res hp a
  have h := ((((Cg.nat 3).mul E).mul E).add A).mod (p := p)
  have e1 : nbT a e = ((3 : Nat) : Int) * e * e + a := by unfold nbT; grind
  rw [e1]; exact h
theorem res_rawA {p : Nat} (hp : 0 < p) (a e : Int) : resN p (rawA a e) = rawAN p (resN p a) (resN p e) := by
  have T := res_rawT hp a e
  have A := Cg.res hp a
  have h := (A.add (((Cg.nat 5).mul T).neg hp)).mod
  have e1 : rawA a e = a + -(((5 : Nat) : Int) * nbT a e) := by unfold rawA; grind
  rw [e1]; exact h.eq2 (Nat.mod_lt _ hp)
theorem res_rawB {p : Nat} (hp : 0 < p) {a b e : Int} (he : evZ a b e = 0) : resN p (rawB a b e) = rawBN p (resN p a) (resN p e) := by
  have T := res_rawT hp a e
  have E := Cg.res hp e
  have B := Cg.res hp b
  rw [res_rootB hp he] at B
  have h := (B.add ((((Cg.nat 7).mul E).mul T).neg hp)).mod
  have e1 : rawB a b e = b + -(((7 : Nat) : Int) * e * nbT a e) := by unfold rawB; grind
  rw [e1]; exact h.eq2 (Nat.mod_lt _ hp)
end
section
open Go

def zeroOk (p : Nat) : Bool := (List.range p).all fun A => (List.range p).all fun e => discN p A (rootB p A e) == 0 || !(rawAN p A e == 0 && rawBN p A e == 0)
theorem zero5 : zeroOk 5 = true := by decide +kernel
theorem zero7 : zeroOk 7 = true := by decide +kernel
theorem zero11 : zeroOk 11 = true := by decide +kernel
theorem zero13 : zeroOk 13 = true := by decide +kernel
theorem zero_use {p A e : Nat} (h : zeroOk p = true) (hA : A < p) (he : e < p) (hd : discN p A (rootB p A e) ≠ 0) : ¬ (rawAN p A e = 0 ∧ rawBN p A e = 0) := by
  unfold zeroOk at h
  have h1 := List.all_eq_true.1 (List.all_eq_true.1 h A (List.mem_range.2 hA)) e (List.mem_range.2 he)
  rintro ⟨h2, h3⟩
  rw [h2, h3] at h1
  simp at h1
  exact hd h1
theorem iso_use {p A e : Nat} (h : isoOk p = true) (hA : A < p) (he : e < p) (hd : discN p A (rootB p A e) ≠ 0) : cntN p (rawAN p A e) (rawBN p A e) = cntN p A (rootB p A e) := by
  unfold isoOk at h
  have h1 := List.all_eq_true.1 (List.all_eq_true.1 h A (List.mem_range.2 hA)) e (List.mem_range.2 he)
  rw [Bool.or_eq_true, beq_iff_eq, beq_iff_eq] at h1
  exact h1.resolve_left hd
theorem scale_use {p A B u : Nat} (h : scaleOk p = true) (hA : A < p) (hB : B < p) (hu : u < p) (h0 : u ≠ 0) : cntN p (u * u * u * u * A % p) (u * u * u * u * u * u * B % p) = cntN p A B := by
  unfold scaleOk at h
  have h1 := List.all_eq_true.1 (List.all_eq_true.1 (List.all_eq_true.1 h A (List.mem_range.2 hA)) B (List.mem_range.2 hB)) u (List.mem_range.2 hu)
  rw [Bool.or_eq_true, beq_iff_eq, beq_iff_eq] at h1
  exact h1.resolve_left h0
theorem count_p {p : Nat} (hp : 0 < p) (hz : zeroOk p = true) (hi : isoOk p = true) (hs : scaleOk p = true) {a b e : Int} {d : Cu} (hc : curveB a b = true) (he : evZ a b e = 0) (hn : nbV a b e = some d) (hd : discN p (resN p a) (resN p b) ≠ 0) : cntV p a b = cntV p d.a d.b := by
  obtain ⟨s, -, hA, hB, -⟩ := nbV_some hc he hn
  rw [cntV_res hp, cntV_res hp, res_rootB hp he] at *
  have ha := resN_lt hp a
  have hE := resN_lt hp e
  rw [← iso_use hi ha hE hd, ← res_rawA hp a e, ← res_rawB hp he, hA, hB]
  have S := Cg.res hp s
  have DA := Cg.res hp d.a
  have DB := Cg.res hp d.b
  have e4 : resN p (p4 s * d.a) = resN p s * resN p s * resN p s * resN p s * resN p d.a % p := ((((S.mul S).mul S).mul S).mul DA).eq
  have e6 : resN p (p6 s * d.b) = resN p s * resN p s * resN p s * resN p s * resN p s * resN p s * resN p d.b % p := ((((((S.mul S).mul S).mul S).mul S).mul S).mul DB).eq
  rw [e4, e6]
  refine scale_use hs (resN_lt hp _) (resN_lt hp _) (resN_lt hp _) (fun h0 => ?_)
  refine zero_use hz ha hE hd ⟨?_, ?_⟩
  · rw [← res_rawA hp a e, hA, e4, h0]; simp
  · rw [← res_rawB hp he, hB, e6, h0]; simp
theorem count_nb {p : Nat} (h : p = 5 ∨ p = 7 ∨ p = 11 ∨ p = 13) {a b e : Int} {d : Cu} (hc : curveB a b = true) (he : evZ a b e = 0) (hn : nbV a b e = some d) (hd : discN p (resN p a) (resN p b) ≠ 0) : cntV p a b = cntV p d.a d.b := by
  rcases h with rfl | rfl | rfl | rfl
  · exact count_p (by omega) zero5 iso5 scale5 hc he hn hd
  · exact count_p (by omega) zero7 iso7 scale7 hc he hn hd
  · exact count_p (by omega) zero11 iso11 scale11 hc he hn hd
  · exact count_p (by omega) zero13 iso13 scale13 hc he hn hd
end
section
open Go Go.RowKit

theorem tm_bd {a p : Int} (hp : 0 < p) : -p < a.tmod p ∧ a.tmod p < p := by
  have h : (a.tmod p).natAbs < p.natAbs := by rw [Int.natAbs_tmod]; exact Nat.mod_lt _ (by omega)
  omega
theorem tm_fix {a p : Int} (hp : 0 < p) : (a.tmod p + p).tmod p = a % p := by
  have h := tm_bd (a := a) hp
  rw [Int.tmod_eq_emod_of_nonneg (by omega), Int.add_emod_right, Int.tmod_def, Int.sub_mul_emod_self_left]
theorem md_bd (a : Int) {p : Int} (hp : 0 < p) : 0 ≤ a % p ∧ a % p < p := ⟨Int.emod_nonneg _ (by omega), Int.emod_lt_of_pos _ hp⟩
theorem mul_lt {x y p : Int} (hx : 0 ≤ x) (hx' : x < p) (hy : 0 ≤ y) (hy' : y < p) (hp : p ≤ 1000000000) : 0 ≤ x * y ∧ x * y ≤ 1000000000000000000 :=
  ⟨Int.mul_nonneg hx hy, (mul_bd x y 1000000000 1000000000 (by omega) (by omega) (by omega) (by omega)).2⟩
/-- Powers modulo p, as both sides reckon them. -/
def pwN (p out base : Int) (n : Nat) : Int := if h : n = 0 then out else pwN p (if n % 2 = 1 then out * base % p else out) (base * base % p) (n / 2)
termination_by n
decreasing_by omega
def pwV (a : Int) (n : Nat) (p : Int) : Int := pwN p 1 (a % p) n
theorem pwN_zero (p o b : Int) : pwN p o b 0 = o := by rw [pwN]; rfl
theorem pwN_odd {p o b : Int} {n : Nat} (h : n % 2 = 1) : pwN p o b n = pwN p (o * b % p) (b * b % p) (n / 2) := by
  rw [pwN, dif_neg (by omega), if_pos h]
theorem pwN_even {p o b : Int} {n : Nat} (h0 : 0 < n) (h : n % 2 ≠ 1) : pwN p o b n = pwN p o (b * b % p) (n / 2) := by
  rw [pwN, dif_neg (by omega), if_neg h]
set_option maxHeartbeats 800000 in
theorem modulo_any (a p : Int) (w : World) (hp : 0 < p) (hp' : p ≤ 1000000000000000000) :
    Calls Tryz.prog 163 #[.int .i64 a, .int .i64 p] w fun e w' => e = .returned (.int .i64 (a % p)) ∧ w = w' := by
  have Hf := Lib.hid (tm_fix (a := a) hp)
  have hb := tm_bd (a := a) hp
  have hm := md_bd a hp
  have hp0 : ¬ p = 0 := by omega
  obtain ⟨x, hx⟩ : ∃ x, a.tmod p = x := ⟨_, rfl⟩
  rw [hx] at hb Hf
  obtain ⟨h1, h2⟩ := hb
  have hn : 0 ≤ x + p := by omega
  rw [Int.tmod_eq_emod_of_nonneg hn] at Hf
  go_enter Tryz.func163, Tryz.ntmps163
  go_wp2
  go_ret
  exact ⟨ret_int Hf.out, rfl⟩
set_option maxHeartbeats 800000 in
theorem mdMod_any (a p : Int) (w : World) (hp : 0 < p) (hp' : p ≤ 1000000000000000000) :
    Calls Tryz.prog 117 #[.int .i64 a, .int .i64 p] w fun e w' => e = .returned (.int .i64 (a % p)) ∧ w = w' := by
  have Hf := Lib.hid (tm_fix (a := a) hp)
  have hb := tm_bd (a := a) hp
  have hm := md_bd a hp
  have hp0 : ¬ p = 0 := by omega
  obtain ⟨x, hx⟩ : ∃ x, a.tmod p = x := ⟨_, rfl⟩
  rw [hx] at hb Hf
  obtain ⟨h1, h2⟩ := hb
  have hn : 0 ≤ x + p := by omega
  rw [Int.tmod_eq_emod_of_nonneg hn] at Hf
  go_enter Tryz.func117, Tryz.ntmps117
  go_wp2
  go_ret
  exact ⟨ret_int Hf.out, rfl⟩
set_option maxHeartbeats 1600000 in
theorem mdPower_any (a : Int) (n : Nat) (p : Int) (w : World) (hp : 2 ≤ p) (hp' : p ≤ 1000000000) (hn : n ≤ 1000000000) :
    Calls Tryz.prog 164 #[.int .i64 a, .int .i64 (n : Int), .int .i64 p] w fun e w' => e = .returned (.int .i64 (pwV a n p)) ∧ Below w.heap.size w w' := by
  have hm := md_bd a (p := p) (by omega)
  have Hv := Lib.hid (show pwN p 1 (a % p) n = pwV a n p from rfl)
  generalize pwV a n p = V at Hv
  have hp0 : ¬ p = 0 := by omega
  go_enter Tryz.func164, Tryz.ntmps164
  go_wp2_with (go_at_call 117; refine (mdMod_any _ _ _ (by omega) (by omega)).mono ?_; rintro e w' ⟨rfl, rfl⟩)
  generalize a % p = b0 at Hv hm
  go_loopw [1, 7, 8] (fun s t u wr => ∃ (k : Nat) (x y : Int), s = .int .i64 (k : Int) ∧ t = .int .i64 x ∧ u = .int .i64 y ∧ Hid (pwN p x y k = V) ∧ k ≤ 1000000000 ∧ 0 ≤ x ∧ x < p ∧ 0 ≤ y ∧ y < p ∧ Hid (Below w.heap.size w wr)) (fun s _ _ _ => (intOf s).toNat)
  case atStart => exact ⟨n, 1, b0, rfl, rfl, rfl, Hv, hn, by omega, by omega, hm.1, hm.2, Lib.hid (Below.refl _ _)⟩
  case round =>
    obtain ⟨k, x, y, rfl, rfl, rfl, Hk, hk, hx0, hx1, hy0, hy1, Hb⟩ := hrel
    clear Hv hn hm
    rcases Nat.eq_zero_or_pos k with h0 | h0
    · subst h0
      have Hfin := Lib.hid (show x = V by rw [← Hk.out, pwN_zero])
      clear Hk
      have hxx : x % p = x := Int.emod_eq_of_lt hx0 hx1
      go_wp2
      go_ret
      exact ⟨ret_int (by first | exact Hfin.out | (rw [hxx]; exact Hfin.out)), Hb.out⟩
    · obtain ⟨m1, m2⟩ := mul_lt hx0 hx1 hy0 hy1 hp'
      obtain ⟨q1, q2⟩ := mul_lt hy0 hy1 hy0 hy1 hp'
      obtain ⟨r1, r2⟩ := md_bd (x * y) (p := p) (by omega)
      obtain ⟨s1, s2⟩ := md_bd (y * y) (p := p) (by omega)
      have hd0 : decide ((0 : Int) < (k : Int)) = true := decide_eq_true (by omega)
      have Hk2n := Lib.hid (show (k : Int) / 2 = ((k / 2 : Nat) : Int) by omega)
      by_cases ho : k % 2 = 1
      · have Hk2 := Lib.hid (show pwN p (x * y % p) (y * y % p) (k / 2) = V by rw [← pwN_odd ho]; exact Hk.out)
        have hkm : (k : Int) % 2 = 1 := by omega
        clear Hk ho
        go_wp2
        go_roundw
        case rel => exact ⟨k / 2, x * y % p, y * y % p, by rw [Hk2n.out], rfl, rfl, Hk2, by omega, r1, r2, s1, s2, Hb⟩
        case measure => simp [intOf]; omega
      · have Hk2 := Lib.hid (show pwN p x (y * y % p) (k / 2) = V by rw [← pwN_even h0 ho]; exact Hk.out)
        have hkm : (k : Int) % 2 = 0 := by omega
        clear Hk ho
        go_wp2
        go_roundw
        case rel => exact ⟨k / 2, x, y * y % p, by rw [Hk2n.out], rfl, rfl, Hk2, by omega, hx0, hx1, s1, s2, Hb⟩
        case measure => simp [intOf]; omega
set_option maxHeartbeats 1600000 in
theorem power_any (a : Int) (n : Nat) (p : Int) (w : World) (hp : 2 ≤ p) (hp' : p ≤ 1000000000) (hn : n ≤ 1000000000) :
    Calls Tryz.prog 162 #[.int .i64 a, .int .i64 (n : Int), .int .i64 p] w fun e w' => e = .returned (.int .i64 (pwV a n p)) ∧ Below w.heap.size w w' := by
  have hm := md_bd a (p := p) (by omega)
  have Hv := Lib.hid (show pwN p 1 (a % p) n = pwV a n p from rfl)
  generalize pwV a n p = V at Hv
  have hp0 : ¬ p = 0 := by omega
  go_enter Tryz.func162, Tryz.ntmps162
  have h1p : (1 : Int) % p = 1 := Int.emod_eq_of_lt (by omega) (by omega)
  go_wp2_with fail
  refine wp_region_tame (by kernel_rfl) (by kernel_rfl) (fun T _ W hT => ?_)
  have hx := hT.cell
  repeat (go_big_quiet_step ((go_at_call 163; refine (modulo_any _ _ _ (by omega) (by omega)).mono ?_; rintro e w' ⟨rfl, rfl⟩; exact ⟨rfl, _, rfl⟩)))
  refine wpQuiet_nil ?_
  intro tt
  clear hx
  have hbt := Lib.hid (hT.below tt)
  generalize W tt = w1 at hbt ⊢
  clear hT
  generalize a % p = b0 at Hv hm
  go_wp2
  go_loopw [1, 7, 8] (fun s t u wr => ∃ (k : Nat) (x y : Int), s = .int .i64 (k : Int) ∧ t = .int .i64 x ∧ u = .int .i64 y ∧ Hid (pwN p x y k = V) ∧ k ≤ 1000000000 ∧ 0 ≤ x ∧ x < p ∧ 0 ≤ y ∧ y < p ∧ Hid (Below w.heap.size w wr)) (fun s _ _ _ => (intOf s).toNat)
  case atStart => exact ⟨n, 1, b0, rfl, by rw [h1p], rfl, Hv, hn, by omega, by omega, hm.1, hm.2, hbt⟩
  case round =>
    obtain ⟨k, x, y, rfl, rfl, rfl, Hk, hk, hx0, hx1, hy0, hy1, Hb⟩ := hrel
    clear Hv hn hm
    rcases Nat.eq_zero_or_pos k with h0 | h0
    · subst h0
      have Hfin := Lib.hid (show x = V by rw [← Hk.out, pwN_zero])
      clear Hk
      have hxx : x % p = x := Int.emod_eq_of_lt hx0 hx1
      go_wp2
      go_ret
      exact ⟨ret_int (by first | exact Hfin.out | (rw [hxx]; exact Hfin.out)), Hb.out⟩
    · obtain ⟨m1, m2⟩ := mul_lt hx0 hx1 hy0 hy1 hp'
      obtain ⟨q1, q2⟩ := mul_lt hy0 hy1 hy0 hy1 hp'
      obtain ⟨r1, r2⟩ := md_bd (x * y) (p := p) (by omega)
      obtain ⟨s1, s2⟩ := md_bd (y * y) (p := p) (by omega)
      have hd0 : decide ((0 : Int) < (k : Int)) = true := decide_eq_true (by omega)
      have Hk2n := Lib.hid (show (k : Int) / 2 = ((k / 2 : Nat) : Int) by omega)
      by_cases ho : k % 2 = 1
      · have Hk2 := Lib.hid (show pwN p (x * y % p) (y * y % p) (k / 2) = V by rw [← pwN_odd ho]; exact Hk.out)
        have hkm : (k : Int) % 2 = 1 := by omega
        clear Hk ho
        go_wp2
        go_roundw
        case rel => exact ⟨k / 2, x * y % p, y * y % p, by rw [Hk2n.out], rfl, rfl, Hk2, by omega, r1, r2, s1, s2, Hb⟩
        case measure => simp [intOf]; omega
      · have Hk2 := Lib.hid (show pwN p x (y * y % p) (k / 2) = V by rw [← pwN_even h0 ho]; exact Hk.out)
        have hkm : (k : Int) % 2 = 0 := by omega
        clear Hk ho
        go_wp2
        go_roundw
        case rel => exact ⟨k / 2, x, y * y % p, by rw [Hk2n.out], rfl, rfl, Hk2, by omega, hx0, hx1, s1, s2, Hb⟩
        case measure => simp [intOf]; omega
/-- The square symbol, as the program and as the reference has it. -/
def syI (a p : Int) : Int := if pwV a ((p - 1) / 2).toNat p = 0 then 0 else if pwV a ((p - 1) / 2).toNat p = 1 then 1 else -1
def syS (a p : Int) : Int := if pwV a ((p - 1) / 2).toNat p = p - 1 then -1 else pwV a ((p - 1) / 2).toNat p
set_option maxHeartbeats 1600000 in
theorem symbol_any (a p : Int) (w : World) (hp : 2 ≤ p) (hp' : p ≤ 1000000000) :
    Calls Tryz.prog 114 #[.int .i64 a, .int .i64 p] w fun e w' => e = .returned (.int .i64 (syI a p)) ∧ Below w.heap.size w w' := by
  obtain ⟨n, hn⟩ : ∃ n : Nat, ((p - 1) / 2).toNat = n := ⟨_, rfl⟩
  have hn2 : (p - 1) / 2 = (n : Int) := by omega
  have hnb : n ≤ 1000000000 := by omega
  have Hs := (show syI a p = if pwV a n p = 0 then 0 else if pwV a n p = 1 then 1 else -1 by unfold syI; rw [hn])
  obtain ⟨s, hs⟩ : ∃ s, syI a p = s := ⟨_, rfl⟩
  rw [hs] at Hs ⊢
  clear hs hn
  have Hc := Lib.hid (fun w => power_any a n p w hp hp' hnb)
  generalize pwV a n p = v at Hs Hc
  by_cases h0 : v = 0
  · rw [if_pos h0] at Hs
    have z0 : (v == 0) = true := by rw [h0]; rfl
    clear h0
    replace Hs := Lib.hid Hs
    go_enter Tryz.func114, Tryz.ntmps114
    go_wp2_with (go_at_call 162; refine (Hc.out _).mono ?_; rintro e w1 ⟨rfl, hb1⟩)
    go_ret
    exact ⟨ret_int Hs.out.symm, hb1⟩
  · rw [if_neg h0] at Hs
    have z0 : (v == 0) = false := beq_eq_false_iff_ne.2 h0
    clear h0
    by_cases h1 : v = 1
    · rw [if_pos h1] at Hs
      have z1 : (v == 1) = true := by rw [h1]; rfl
      clear h1
      replace Hs := Lib.hid Hs
      go_enter Tryz.func114, Tryz.ntmps114
      go_wp2_with (go_at_call 162; refine (Hc.out _).mono ?_; rintro e w1 ⟨rfl, hb1⟩)
      go_ret
      exact ⟨ret_int Hs.out.symm, hb1⟩
    · rw [if_neg h1] at Hs
      have z1 : (v == 1) = false := beq_eq_false_iff_ne.2 h1
      clear h1
      replace Hs := Lib.hid Hs
      go_enter Tryz.func114, Tryz.ntmps114
      go_wp2_with (go_at_call 162; refine (Hc.out _).mono ?_; rintro e w1 ⟨rfl, hb1⟩)
      go_ret
      exact ⟨ret_int Hs.out.symm, hb1⟩
set_option maxHeartbeats 1600000 in
theorem mdSymbol_any (a p : Int) (w : World) (hp : 2 ≤ p) (hp' : p ≤ 1000000000) :
    Calls Tryz.prog 118 #[.int .i64 a, .int .i64 p] w fun e w' => e = .returned (.int .i64 (syS a p)) ∧ Below w.heap.size w w' := by
  obtain ⟨n, hn⟩ : ∃ n : Nat, ((p - 1) / 2).toNat = n := ⟨_, rfl⟩
  have hn2 : (p - 1) / 2 = (n : Int) := by omega
  have hnb : n ≤ 1000000000 := by omega
  have Hs := (show syS a p = if pwV a n p = p - 1 then -1 else pwV a n p by unfold syS; rw [hn])
  obtain ⟨s, hs⟩ : ∃ s, syS a p = s := ⟨_, rfl⟩
  rw [hs] at Hs ⊢
  clear hs hn
  have Hc := Lib.hid (fun w => mdPower_any a n p w hp hp' hnb)
  generalize pwV a n p = v at Hs Hc
  by_cases h0 : v = p - 1
  · rw [if_pos h0] at Hs
    have z0 : (v == p - 1) = true := by rw [h0]; simp
    clear h0
    replace Hs := Lib.hid Hs
    go_enter Tryz.func118, Tryz.ntmps118
    go_wp2_with (go_at_call 164; refine (Hc.out _).mono ?_; rintro e w1 ⟨rfl, hb1⟩)
    go_ret
    exact ⟨ret_int Hs.out.symm, hb1⟩
  · rw [if_neg h0] at Hs
    have z0 : (v == p - 1) = false := beq_eq_false_iff_ne.2 h0
    clear h0
    replace Hs := Lib.hid Hs
    go_enter Tryz.func118, Tryz.ntmps118
    go_wp2_with (go_at_call 164; refine (Hc.out _).mono ?_; rintro e w1 ⟨rfl, hb1⟩)
    go_ret
    exact ⟨ret_int Hs.out.symm, hb1⟩
end
section
open Go Go.RowKit

def prB (n : Nat) : Bool := decide (2 ≤ n) && (List.range n).all (fun d => decide (d < 2) || !decide (d * d ≤ n) || !decide (n % d = 0))
theorem prB_no {n k : Nat} (h2 : 2 ≤ k) (hk : k * k ≤ n) (hd : n % k = 0) : prB n = false := by
  unfold prB
  rw [Bool.and_eq_false_iff]
  right
  rw [List.all_eq_false]
  have h3 : 2 * k ≤ k * k := Nat.mul_le_mul_right k h2
  refine ⟨k, List.mem_range.2 (by omega), ?_⟩
  simp [hk, hd]; omega
theorem prB_yes {n k : Nat} (hn : 2 ≤ n) (hk : n < k * k) (h : ∀ j, 2 ≤ j → j < k → n % j ≠ 0) : prB n = true := by
  unfold prB
  rw [decide_eq_true hn, Bool.true_and, List.all_eq_true]
  intro d hd
  by_cases h1 : d < 2
  · simp [h1]
  · by_cases h3 : d < k
    · simp [h d (by omega) h3]
    · have : k * k ≤ d * d := Nat.mul_le_mul (by omega) (by omega)
      simp [show ¬ d * d ≤ n by omega]
theorem prB_small {n : Nat} (hn : n < 2) : prB n = false := by unfold prB; rw [decide_eq_false (by omega)]; rfl
def LOOPREL (n k : Nat) : Prop := ∀ j, 2 ≤ j → j < k → n % j ≠ 0
theorem LOOPREL.next {n k : Nat} (h : LOOPREL n k) (hk : n % k ≠ 0) : LOOPREL n (k + 1) := fun j h1 h2 => by
  by_cases e : j = k
  · rw [e]; exact hk
  · exact h j h1 (by omega)
theorem sq_le31 {k n : Nat} (h : k * k ≤ n) (hn : n ≤ 997) : k ≤ 31 := by
  rcases Nat.lt_or_ge 31 k with h1 | h1
  · have := Nat.mul_le_mul (show 32 ≤ k by omega) (show 32 ≤ k by omega)
    omega
  · exact h1
set_option maxHeartbeats 1600000 in
theorem isPrime_any (n : Nat) (w : World) (hn : n ≤ 997) :
    Calls Tryz.prog 113 #[.int .i64 (n : Int)] w fun e w' => e = .returned (.bool (prB n)) ∧ Below w.heap.size w w' := by
  have Hno := Lib.hid (fun k (h2 : 2 ≤ k) (hk : k * k ≤ n) (hd : n % k = 0) => prB_no h2 hk hd)
  have Hyes := Lib.hid (fun k (hk : n < k * k) (h : LOOPREL n k) => show prB n = decide ((2 : Int) ≤ (n : Int)) by
    by_cases h2 : 2 ≤ n
    · rw [prB_yes h2 hk h, decide_eq_true (by omega)]
    · rw [prB_small (by omega), decide_eq_false (by omega)])
  generalize prB n = B at Hno Hyes
  go_enter Tryz.func113, Tryz.ntmps113
  go_wp2
  go_loopw [3] (fun s wr => ∃ k : Nat, s = .int .i64 (k : Int) ∧ 2 ≤ k ∧ k ≤ 32 ∧ Hid (LOOPREL n k) ∧ Hid (Below w.heap.size w wr)) (fun s _ => 40 - (intOf s).toNat)
  case atStart => exact ⟨2, rfl, by omega, by omega, Lib.hid (fun j h1 h2 => by omega), Lib.hid (Below.refl _ _)⟩
  case round =>
    obtain ⟨k, rfl, hk2, hk3, Hk, Hb⟩ := hrel
    have hkk : (k : Int) * (k : Int) ≤ 1024 ∧ 0 ≤ (k : Int) * (k : Int) := ⟨by have := Nat.mul_le_mul hk3 hk3; rw [← Int.natCast_mul]; omega, Int.mul_nonneg (by omega) (by omega)⟩
    obtain ⟨e1, e2⟩ := hkk
    have hk0 : ¬ (k : Int) = 0 := by omega
    by_cases hle : k * k ≤ n
    · have hd0 : decide ((k : Int) * (k : Int) ≤ (n : Int)) = true := decide_eq_true (by rw [← Int.natCast_mul]; omega)
      have Hle := Lib.hid hle; have H31 := Lib.hid (sq_le31 hle hn); clear hle
      by_cases hm : n % k = 0
      · have hz : ((n : Int) % (k : Int) == 0) = true := by rw [← Int.natCast_emod, hm]; rfl
        have Hf := Lib.hid (Hno.out k hk2 Hle.out hm)
        clear hm
        go_wp2
        go_ret
        exact ⟨by rw [Hf.out]; rfl, Hb.out⟩
      · have hz : ((n : Int) % (k : Int) == 0) = false := beq_eq_false_iff_ne.2 (by rw [← Int.natCast_emod]; omega)
        have Hn := Lib.hid (Hk.out.next hm)
        clear hm
        go_wp2
        go_roundw
        case rel => exact ⟨k + 1, by go_num, by omega, by have := H31.out; omega, Hn, Hb⟩
        case measure => simp [intOf]; have := H31.out; omega
    · have hd0 : decide ((k : Int) * (k : Int) ≤ (n : Int)) = false := decide_eq_false (by rw [← Int.natCast_mul]; omega)
      have Hf := Lib.hid (Hyes.out k (by omega) Hk.out)
      clear hle
      go_wp2
      go_ret
      exact ⟨by rw [Hf.out]; rfl, Hb.out⟩
set_option maxHeartbeats 1600000 in
theorem mdPrime_any (n : Nat) (w : World) (hn : n ≤ 997) :
    Calls Tryz.prog 116 #[.int .i64 (n : Int)] w fun e w' => e = .returned (.bool (prB n)) ∧ Below w.heap.size w w' := by
  by_cases h2 : 2 ≤ n
  · have Hno := Lib.hid (fun k (h2 : 2 ≤ k) (hk : k * k ≤ n) (hd : n % k = 0) => prB_no h2 hk hd)
    have Hyes := Lib.hid (fun k (hk : n < k * k) (h : LOOPREL n k) => prB_yes h2 hk h)
    generalize prB n = B at Hno Hyes
    have hin := insB_mk (n := (n : Int)) (lo := 2) (hi := 997) (by omega) (by omega)
    go_enter Tryz.func116, Tryz.ntmps116
    go_wp2_with (go_at_call 96; refine (l1In_any _ _ _ _).mono ?_; rw [hin]; rintro e w' ⟨rfl, rfl⟩)
    go_loopw [3] (fun s wr => ∃ k : Nat, s = .int .i64 (k : Int) ∧ 2 ≤ k ∧ k ≤ 32 ∧ Hid (LOOPREL n k) ∧ Hid (Below w.heap.size w wr)) (fun s _ => 40 - (intOf s).toNat)
    case atStart => exact ⟨2, rfl, by omega, by omega, Lib.hid (fun j h1 h2 => by omega), Lib.hid (Below.refl _ _)⟩
    case round =>
      obtain ⟨k, rfl, hk2, hk3, Hk, Hb⟩ := hrel
      have hkk : (k : Int) * (k : Int) ≤ 1024 ∧ 0 ≤ (k : Int) * (k : Int) := ⟨by have := Nat.mul_le_mul hk3 hk3; rw [← Int.natCast_mul]; omega, Int.mul_nonneg (by omega) (by omega)⟩
      obtain ⟨e1, e2⟩ := hkk
      have hk0 : ¬ (k : Int) = 0 := by omega
      by_cases hle : k * k ≤ n
      · have hd0 : decide ((k : Int) * (k : Int) ≤ (n : Int)) = true := decide_eq_true (by rw [← Int.natCast_mul]; omega)
        have Hle := Lib.hid hle; have H31 := Lib.hid (sq_le31 hle hn); clear hle
        by_cases hm : n % k = 0
        · have hz : ((n : Int) % (k : Int) == 0) = true := by rw [← Int.natCast_emod, hm]; rfl
          have Hf := Lib.hid (Hno.out k hk2 Hle.out hm)
          clear hm
          go_wp2
          go_ret
          exact ⟨by rw [Hf.out]; rfl, Hb.out⟩
        · have hz : ((n : Int) % (k : Int) == 0) = false := beq_eq_false_iff_ne.2 (by rw [← Int.natCast_emod]; omega)
          have Hn := Lib.hid (Hk.out.next hm)
          clear hm
          go_wp2
          go_roundw
          case rel => exact ⟨k + 1, by go_num, by omega, by have := H31.out; omega, Hn, Hb⟩
          case measure => simp [intOf]; have := H31.out; omega
      · have hd0 : decide ((k : Int) * (k : Int) ≤ (n : Int)) = false := decide_eq_false (by rw [← Int.natCast_mul]; omega)
        have Hf := Lib.hid (Hyes.out k (by omega) Hk.out)
        clear hle
        go_wp2
        go_ret
        exact ⟨by rw [Hf.out]; rfl, Hb.out⟩
  · rw [prB_small (by omega)]
    have hin : insB (n : Int) 2 997 = false := by unfold insB; rw [decide_eq_false (by omega)]
    go_enter Tryz.func116, Tryz.ntmps116
    go_wp2_with (go_at_call 96; refine (l1In_any _ _ _ _).mono ?_; rw [hin]; rintro e w' ⟨rfl, rfl⟩)
    go_ret
    exact ⟨rfl, Below.refl _ _⟩
end
section
open Go Go.RowKit

def pr4 (p : Nat) : Prop := p = 5 ∨ p = 7 ∨ p = 11 ∨ p = 13
theorem pw5 (b : Int) : pwN 5 1 b 2 = 1 * (b * b % 5) % 5 := by rw [pwN_even (by omega) (by omega), show 2 / 2 = 1 from rfl, pwN_odd (by omega), show 1 / 2 = 0 from rfl, pwN_zero]
theorem pw7 (b : Int) : pwN 7 1 b 3 = 1 * b % 7 * (b * b % 7) % 7 := by rw [pwN_odd (by omega), show 3 / 2 = 1 from rfl, pwN_odd (by omega), show 1 / 2 = 0 from rfl, pwN_zero]
theorem pw11 (b : Int) : pwN 11 1 b 5 = 1 * b % 11 * (b * b % 11 * (b * b % 11) % 11) % 11 := by rw [pwN_odd (by omega), show 5 / 2 = 2 from rfl, pwN_even (by omega) (by omega), show 2 / 2 = 1 from rfl, pwN_odd (by omega), show 1 / 2 = 0 from rfl, pwN_zero]
theorem pw13 (b : Int) : pwN 13 1 b 6 = 1 * (b * b % 13) % 13 * (b * b % 13 * (b * b % 13) % 13) % 13 := by rw [pwN_even (by omega) (by omega), show 6 / 2 = 3 from rfl, pwN_odd (by omega), show 3 / 2 = 1 from rfl, pwN_odd (by omega), show 1 / 2 = 0 from rfl, pwN_zero]
theorem sy4 {p : Nat} (hp : pr4 p) (z : Int) : syI z p = symN p (z % p).toNat ∧ syS z p = symN p (z % p).toNat := by
  have hz : ∃ r : Nat, z % (p : Int) = r ∧ r < p := ⟨(z % (p : Int)).toNat, by rcases hp with rfl | rfl | rfl | rfl <;> omega, by rcases hp with rfl | rfl | rfl | rfl <;> omega⟩
  obtain ⟨r, hr, hlt⟩ := hz
  unfold syI syS pwV
  rw [hr, Int.toNat_natCast]
  clear hr
  rcases hp with rfl | rfl | rfl | rfl
  · rw [show (((5 : Nat) : Int) - 1) / 2 = 2 from rfl, show (2 : Int).toNat = 2 from rfl, show ((5 : Nat) : Int) = 5 from rfl, pw5]
    revert r; decide
  · rw [show (((7 : Nat) : Int) - 1) / 2 = 3 from rfl, show (3 : Int).toNat = 3 from rfl, show ((7 : Nat) : Int) = 7 from rfl, pw7]
    revert r; decide
  · rw [show (((11 : Nat) : Int) - 1) / 2 = 5 from rfl, show (5 : Int).toNat = 5 from rfl, show ((11 : Nat) : Int) = 11 from rfl, pw11]
    revert r; decide
  · rw [show (((13 : Nat) : Int) - 1) / 2 = 6 from rfl, show (6 : Int).toNat = 6 from rfl, show ((13 : Nat) : Int) = 13 from rfl, pw13]
    revert r; decide
theorem symN_bd (p n : Nat) : -1 ≤ symN p n ∧ symN p n ≤ 1 := by unfold symN; split <;> (try split) <;> omega
/-- The value modulo p at x. -/
def fv (p : Nat) (a b : Int) (x : Nat) : Int := ((x : Int) * x * x + a * x + b) % (p : Int)
def sgS (p : Nat) (a b : Int) : Nat → Int
  | 0 => 0
  | k + 1 => sgS p a b k + symN p (fv p a b k).toNat
theorem sgS_bd (p : Nat) (a b : Int) : ∀ k : Nat, -(k : Int) ≤ sgS p a b k ∧ sgS p a b k ≤ k
  | 0 => ⟨by show -((0 : Nat) : Int) ≤ 0; omega, by show (0 : Int) ≤ ((0 : Nat) : Int); omega⟩
  | k + 1 => by
    have h1 := sgS_bd p a b k
    have h2 := symN_bd p (fv p a b k).toNat
    unfold sgS
    omega
theorem cntV_sgS (p : Nat) (a b : Int) : cntV p a b = (p : Int) + 1 + sgS p a b p := by
  have h : ∀ (k : Nat) (s : Int), (List.range k).foldl (fun s (x : Nat) => s + symN p (((x : Int) * x * x + a * x + b) % (p : Int)).toNat) s = s + sgS p a b k := by
    intro k
    induction k with
    | zero => intro s; simp [sgS]
    | succ k ih => intro s; rw [List.range_succ, List.foldl_append, ih]; simp [sgS, fv, Int.add_assoc]
  unfold cntV
  exact h p _
theorem fv_mid (p : Nat) (a b : Int) (x : Nat) : ((x : Int) * x % p * x + a * x + b) % (p : Int) = fv p a b x := by
  unfold fv
  have h1 := Int.mul_ediv_add_emod ((x : Int) * x) (p : Int)
  have h2 : (x : Int) * x % p * x + a * x + b = (x : Int) * x * x + a * x + b - (p : Int) * ((x : Int) * x / p * x) := by
    rw [show (x : Int) * x % p = (x : Int) * x - (p : Int) * ((x : Int) * x / p) by omega]; grind
  rw [h2, Int.sub_mul_emod_self_left]
theorem pr4_le {p : Nat} (h : pr4 p) : 5 ≤ p ∧ p ≤ 13 := by rcases h with rfl | rfl | rfl | rfl <;> omega
structure FvBd (a : Int) (x : Nat) : Prop where
  xx : 0 ≤ (x : Int) * x ∧ (x : Int) * x ≤ 169
  xxx : 0 ≤ (x : Int) * x * x ∧ (x : Int) * x * x ≤ 2197
  ax : -13000 ≤ a * x ∧ a * x ≤ 13000
theorem FvBd.of {a : Int} {x : Nat} (ha : -1000 ≤ a ∧ a ≤ 1000) (hx : x ≤ 13) : FvBd a x := by
  have h1 := mul_bd (x : Int) x 13 13 (by omega) (by omega) (by omega) (by omega)
  have h2 := mul_bd ((x : Int) * x) x 169 13 (by omega) (by omega) (by omega) (by omega)
  have h3 := mul_bd a x 1000 13 (by omega) (by omega) (by omega) (by omega)
  exact ⟨⟨Int.mul_nonneg (by omega) (by omega), h1.2⟩, ⟨Int.mul_nonneg (Int.mul_nonneg (by omega) (by omega)) (by omega), by omega⟩, by omega, by omega⟩
set_option maxHeartbeats 1600000 in
theorem rightSide_any (a b : Int) (p x : Nat) (w : World) (ha : -1000 ≤ a ∧ a ≤ 1000) (hb : -10000 ≤ b ∧ b ≤ 10000) (hp : pr4 p) (hx : x ≤ 13) :
    Calls Tryz.prog 115 #[.agg #[.int .i64 a, .int .i64 b], .int .i64 (p : Int), .int .i64 (x : Int)] w fun e w' => e = .returned (.int .i64 (fv p a b x)) ∧ Below w.heap.size w w' := by
  obtain ⟨⟨m1, m2⟩, -, ⟨m5, m6⟩⟩ := FvBd.of ha hx
  have hpl := pr4_le hp
  have Hm := Lib.hid (fv_mid p a b x)
  have hr := md_bd ((x : Int) * x) (p := (p : Int)) (by omega)
  have hr2 := mul_bd ((x : Int) * x % p) x 13 13 (by omega) (by omega) (by omega) (by omega)
  obtain ⟨m7, m8⟩ := hr2
  obtain ⟨a1, a2⟩ := ha; obtain ⟨b1, b2⟩ := hb
  have hp0 : ¬ (p : Int) = 0 := by omega
  have HbA := Lib.hid (show Below w.heap.size w (w.alloc (Obj.cells #[.int .i64 a, .int .i64 b] 25)) from bal (Below.refl _ _) _)
  go_enter Tryz.func115, Tryz.ntmps115
  go_wp2
  refine wp_region_tame (by kernel_rfl) (by kernel_rfl) (fun T _ W hT => ?_)
  have hx := hT.cell
  repeat (go_big_quiet_step ((go_at_call 163; refine (modulo_any _ _ _ (by omega) (by omega)).mono ?_; rintro e w' ⟨rfl, rfl⟩; exact ⟨rfl, _, rfl⟩)))
  refine wpQuiet_nil ?_
  intro tt
  clear hx
  go_wp2
  go_ret
  exact ⟨ret_int Hm.out, bthen HbA.out (hT.below tt)⟩
set_option maxHeartbeats 1600000 in
theorem fmValue_any (a b : Int) (p x : Nat) (w : World) (ha : -1000 ≤ a ∧ a ≤ 1000) (hb : -10000 ≤ b ∧ b ≤ 10000) (hp : pr4 p) (hx : x ≤ 13) :
    Calls Tryz.prog 119 #[.agg #[.int .i64 a, .int .i64 b], .int .i64 (p : Int), .int .i64 (x : Int)] w fun e w' => e = .returned (.int .i64 (fv p a b x)) ∧ Below w.heap.size w w' := by
  obtain ⟨⟨m1, m2⟩, ⟨m3, m4⟩, ⟨m5, m6⟩⟩ := FvBd.of ha hx
  have hpl := pr4_le hp
  have Hm := Lib.hid (show ((x : Int) * x * x + a * x + b) % (p : Int) = fv p a b x from rfl)
  obtain ⟨a1, a2⟩ := ha; obtain ⟨b1, b2⟩ := hb
  have HbA := Lib.hid (show Below w.heap.size w (w.alloc (Obj.cells #[.int .i64 a, .int .i64 b] 25)) from bal (Below.refl _ _) _)
  go_enter Tryz.func119, Tryz.ntmps119
  go_wp2_with (go_at_call 117; refine (mdMod_any _ _ _ (by omega) (by omega)).mono ?_; rintro e w' ⟨rfl, rfl⟩)
  go_ret
  exact ⟨ret_int Hm.out, HbA.out⟩
end
section
open Go Go.RowKit

def gdB (a b : Int) (p : Nat) : Bool := decide (coreI a b % (p : Int) ≠ 0)
theorem gdB_tm {a b : Int} {p : Nat} : ((coreI a b).tmod (p : Int) != 0) = gdB a b p := by
  unfold gdB
  have h : (coreI a b).tmod (p : Int) = 0 ↔ coreI a b % (p : Int) = 0 := by rw [← Int.dvd_iff_tmod_eq_zero, Int.dvd_iff_emod_eq_zero]
  rw [Bool.eq_iff_iff, bne_iff_ne, decide_eq_true_eq]
  exact not_congr h
theorem gdB_em {a b : Int} {p : Nat} : (coreI a b % (p : Int) != 0) = gdB a b p := by
  unfold gdB
  rw [Bool.eq_iff_iff, bne_iff_ne, decide_eq_true_eq]
theorem prB4 {p : Nat} (h : pr4 p) : prB p = true := by rcases h with rfl | rfl | rfl | rfl <;> decide
def nPts (a b : Int) (p : Nat) : Int := if gdB a b p = true then cntV p a b else 0
theorem cnt_bd {p : Nat} (hp : pr4 p) (a b : Int) : 0 ≤ (p : Int) + 1 + sgS p a b p ∧ (p : Int) + 1 + sgS p a b p ≤ 27 := by
  have h1 := sgS_bd p a b p
  have h2 := pr4_le hp
  omega

set_option linter.unusedSimpArgs false in
set_option maxHeartbeats 3200000 in
theorem countI_any (a b : Int) (p : Nat) (w : World) (ha : -1000 ≤ a ∧ a ≤ 1000) (hb : -10000 ≤ b ∧ b ≤ 10000) (hp : pr4 p) :
    Calls Tryz.prog 56 #[.agg #[.int .i64 a, .int .i64 b], .int .i64 (p : Int)] w fun e w' => e = .returned (.int .i64 (cntV p a b)) ∧ Below w.heap.size w w' := by
  have hpl := pr4_le hp
  have Hf := Lib.hid (cntV_sgS p a b)
  have Hbd := Lib.hid (sgS_bd p a b)
  have HbA := Lib.hid (show Below w.heap.size w (w.alloc (Obj.cells #[.int .i64 a, .int .i64 b] 25)) from bal (Below.refl _ _) _)
  have HB := Lib.hid (Blk.new w 25 #[.int .i64 a, .int .i64 b])
  go_enter Tryz.func56, Tryz.ntmps56
  go_wp2
  go_loopw [5, 8] (fun s t wr => ∃ k : Nat, k ≤ p ∧ t = .int .i64 (k : Int) ∧ s = .int .i64 (1 + (k : Int) + sgS p a b k) ∧ Hid (Below (w.heap.size + 1) (w.alloc (Obj.cells #[.int .i64 a, .int .i64 b] 25)) wr)) (fun s t _ => p - (intOf t).toNat)
  case atStart => exact ⟨0, Nat.zero_le _, rfl, by simp [sgS], Lib.hid (Below.refl _ _)⟩
  case round =>
    obtain ⟨k, hk, rfl, rfl, Hb⟩ := hrel
    have HBr := Lib.hid (HB.out.below Hb.out (Nat.lt_succ_self _))
    have HbR := Lib.hid (show Below w.heap.size w wr from HbA.out.trans (Hb.out.mono (by omega)))
    have q0 : wr.cell? ⟨w.heap.size, 0, none⟩ = some (.int .i64 a) := HBr.out.cell 0
    have q1 : wr.cell? ⟨w.heap.size, 1, none⟩ = some (.int .i64 b) := HBr.out.cell 1
    have ql := HBr.out.lt
    have hs := Hbd.out k
    obtain ⟨h1, h2⟩ := hs
    by_cases hlt : k < p
    · have hd0 : decide ((k : Int) < (p : Int)) = true := decide_eq_true (by omega)
      have Hs := Lib.hid (show sgS p a b (k + 1) = sgS p a b k + symN p (fv p a b k).toNat from rfl)
      have hsb := symN_bd p (fv p a b k).toNat
      have Hsy := Lib.hid (sy4 hp)
      have Hv := Lib.hid (fun w9 => rightSide_any a b p k w9 ha hb hp (by omega))
      have Hsc := Lib.hid (fun z w9 => symbol_any z (p : Int) w9 (by omega) (by omega))
      have Hfv := Lib.hid (show fv p a b k % (p : Int) = fv p a b k from Int.emod_eq_of_lt (md_bd _ (by omega)).1 (md_bd _ (by omega)).2)
      have Hz := Lib.hid (show syI (fv p a b k) (p : Int) = symN p (fv p a b k).toNat by rw [(Hsy.out _).1, Hfv.out])
      generalize hS : sgS p a b k = S at h1 h2 Hs ⊢
      generalize hy : symN p (fv p a b k).toNat = y at Hs Hz hsb
      clear hS hy
      obtain ⟨y1, y2⟩ := hsb
      go_wp2_with fail
      refine (Hv.out _).mono ?_; rintro e w1 ⟨rfl, hb1⟩
      go_wp2_with fail
      refine (Hsc.out _ _).mono ?_; rw [Hz.out]; rintro e w2 ⟨rfl, hb2⟩
      have Hb2 := Lib.hid (show Below (w.heap.size + 1) (w.alloc (Obj.cells #[.int .i64 a, .int .i64 b] 25)) w2 from Hb.out.trans ((hb1.mono ql).trans (hb2.mono (Nat.lt_of_lt_of_le ql hb1.size))))
      clear hb1 hb2 q0 q1 ql HBr HbR
      go_wp2
      go_roundw
      case rel => exact ⟨k + 1, by omega, by go_num, by rw [Hs.out]; go_num, Hb2⟩
      case measure => simp [intOf]; omega
    · have hd0 : decide ((k : Int) < (p : Int)) = false := decide_eq_false (by omega)
      obtain rfl : k = p := by omega
      clear q0 q1 ql HBr
      go_wp2
      go_ret
      exact ⟨ret_int (by rw [Hf.out] <;> omega), HbR.out⟩
set_option linter.unusedSimpArgs false in
set_option maxHeartbeats 3200000 in
theorem countS_any (a b : Int) (p : Nat) (w : World) (ha : -1000 ≤ a ∧ a ≤ 1000) (hb : -10000 ≤ b ∧ b ≤ 10000) (hp : pr4 p) :
    Calls Tryz.prog 58 #[.agg #[.int .i64 a, .int .i64 b], .int .i64 (p : Int)] w fun e w' => e = .returned (.int .i64 (cntV p a b)) ∧ Below w.heap.size w w' := by
  have hpl := pr4_le hp
  have Hf := Lib.hid (cntV_sgS p a b)
  have Hbd := Lib.hid (sgS_bd p a b)
  have HbA := Lib.hid (show Below w.heap.size w (w.alloc (Obj.cells #[.int .i64 a, .int .i64 b] 25)) from bal (Below.refl _ _) _)
  have HB := Lib.hid (Blk.new w 25 #[.int .i64 a, .int .i64 b])
  go_enter Tryz.func58, Tryz.ntmps58
  go_wp2
  go_loopw [5, 6] (fun s t wr => ∃ k : Nat, k ≤ p ∧ t = .int .i64 (k : Int) ∧ s = .int .i64 ((p : Int) + 1 + sgS p a b k) ∧ Hid (Below (w.heap.size + 1) (w.alloc (Obj.cells #[.int .i64 a, .int .i64 b] 25)) wr)) (fun s t _ => p - (intOf t).toNat)
  case atStart => exact ⟨0, Nat.zero_le _, rfl, by simp [sgS], Lib.hid (Below.refl _ _)⟩
  case round =>
    obtain ⟨k, hk, rfl, rfl, Hb⟩ := hrel
    have HBr := Lib.hid (HB.out.below Hb.out (Nat.lt_succ_self _))
    have HbR := Lib.hid (show Below w.heap.size w wr from HbA.out.trans (Hb.out.mono (by omega)))
    have q0 : wr.cell? ⟨w.heap.size, 0, none⟩ = some (.int .i64 a) := HBr.out.cell 0
    have q1 : wr.cell? ⟨w.heap.size, 1, none⟩ = some (.int .i64 b) := HBr.out.cell 1
    have ql := HBr.out.lt
    have hs := Hbd.out k
    obtain ⟨h1, h2⟩ := hs
    by_cases hlt : k < p
    · have hd0 : decide ((k : Int) < (p : Int)) = true := decide_eq_true (by omega)
      have Hs := Lib.hid (show sgS p a b (k + 1) = sgS p a b k + symN p (fv p a b k).toNat from rfl)
      have hsb := symN_bd p (fv p a b k).toNat
      have Hsy := Lib.hid (sy4 hp)
      have Hv := Lib.hid (fun w9 => fmValue_any a b p k w9 ha hb hp (by omega))
      have Hsc := Lib.hid (fun z w9 => mdSymbol_any z (p : Int) w9 (by omega) (by omega))
      have Hfv := Lib.hid (show fv p a b k % (p : Int) = fv p a b k from Int.emod_eq_of_lt (md_bd _ (by omega)).1 (md_bd _ (by omega)).2)
      have Hz := Lib.hid (show syS (fv p a b k) (p : Int) = symN p (fv p a b k).toNat by rw [(Hsy.out _).2, Hfv.out])
      generalize hS : sgS p a b k = S at h1 h2 Hs ⊢
      generalize hy : symN p (fv p a b k).toNat = y at Hs Hz hsb
      clear hS hy
      obtain ⟨y1, y2⟩ := hsb
      go_wp2_with fail
      refine (Hv.out _).mono ?_; rintro e w1 ⟨rfl, hb1⟩
      go_wp2_with fail
      refine (Hsc.out _ _).mono ?_; rw [Hz.out]; rintro e w2 ⟨rfl, hb2⟩
      have Hb2 := Lib.hid (show Below (w.heap.size + 1) (w.alloc (Obj.cells #[.int .i64 a, .int .i64 b] 25)) w2 from Hb.out.trans ((hb1.mono ql).trans (hb2.mono (Nat.lt_of_lt_of_le ql hb1.size))))
      clear hb1 hb2 q0 q1 ql HBr HbR
      go_wp2
      go_roundw
      case rel => exact ⟨k + 1, by omega, by go_num, by rw [Hs.out]; go_num, Hb2⟩
      case measure => simp [intOf]; omega
    · have hd0 : decide ((k : Int) < (p : Int)) = false := decide_eq_false (by omega)
      obtain rfl : k = p := by omega
      clear q0 q1 ql HBr
      go_wp2
      go_ret
      exact ⟨ret_int (by rw [Hf.out] <;> omega), HbR.out⟩
theorem inside_lit {n lo hi : Int} {k : Bool} (h : insB n lo hi = k) (w : World) : Calls Tryz.prog 81 #[.int .i64 n, .int .i64 lo, .int .i64 hi] w fun e w' => e = .returned (.bool k) ∧ Below w.heap.size w w' := by
  refine (inside_any n lo hi w).mono ?_
  rintro e w1 ⟨rfl, rfl⟩
  exact ⟨by rw [h], Below.refl _ _⟩
theorem isPr_lit {n : Nat} {k : Bool} (h : prB n = k) (w : World) (hn : n ≤ 997) : Calls Tryz.prog 113 #[.int .i64 (n : Int)] w fun e w' => e = .returned (.bool k) ∧ Below w.heap.size w w' := by
  rw [← h]; exact isPrime_any n w hn
theorem mdPr_lit {n : Nat} {k : Bool} (h : prB n = k) (w : World) (hn : n ≤ 997) : Calls Tryz.prog 116 #[.int .i64 (n : Int)] w fun e w' => e = .returned (.bool k) ∧ Below w.heap.size w w' := by
  rw [← h]; exact mdPrime_any n w hn
set_option linter.unusedSimpArgs false in
set_option maxHeartbeats 3200000 in
theorem isGood_any (a b : Int) (p : Nat) (w : World) (ha : -1000 ≤ a ∧ a ≤ 1000) (hb : -10000 ≤ b ∧ b ≤ 10000) (hp : pr4 p) :
    Calls Tryz.prog 55 #[.agg #[.int .i64 a, .int .i64 b], .int .i64 (p : Int)] w fun e w' => e = .returned (.bool (gdB a b p)) ∧ Below w.heap.size w w' := by
  have hpl := pr4_le hp
  go_enter Tryz.func55, Tryz.ntmps55
  go_wp2_with fail
  refine (inside_lit (show insB (p : Int) 5 997 = true from insB_mk (by omega) (by omega)) _).mono ?_; rintro e w1 ⟨rfl, hb1⟩
  have S1 := Lib.hid (show w.heap.size + 1 ≤ w1.heap.size by have h9 := hb1.size; (try simp only [World.size_alloc, World.size_setCell, World.size_drew] at h9); omega)
  have NE := Lib.hid ((Blk.new w 25 #[.int .i64 a, .int .i64 b]).on hb1)
  have E := NE; clear NE
  have Hb1 := Lib.hid (bthen (bal (Below.refl w.heap.size w) (Obj.cells #[.int .i64 a, .int .i64 b] 25)) hb1)
  clear hb1
  go_wp2_with fail
  refine (isPr_lit (prB4 hp) _ (by omega)).mono ?_; rintro e w2 ⟨rfl, hb2⟩
  have S2 := Lib.hid (show w1.heap.size + 0 ≤ w2.heap.size by have h9 := hb2.size; (try simp only [World.size_alloc, World.size_setCell, World.size_drew] at h9); omega)
  have NE := Lib.hid (E.out.on hb2)
  have E := NE; clear NE
  have Hb2 := Lib.hid (bthen Hb1.out hb2)
  clear hb2
  have qE0 : w2.cell? ⟨w.heap.size, 0, none⟩ = some (.int .i64 a) := E.out.cell 0
  have qE1 : w2.cell? ⟨w.heap.size, 1, none⟩ = some (.int .i64 b) := E.out.cell 1
  have qEl := E.out.lt
  go_wp2_with fail
  clear qE0 qE1 qEl
  refine (core_any _ _ _ ha.1 ha.2 hb.1 hb.2).mono ?_; rintro e w3 ⟨rfl, hb3⟩
  have S3 := Lib.hid (show w2.heap.size + 0 ≤ w3.heap.size by have h9 := hb3.size; (try simp only [World.size_alloc, World.size_setCell, World.size_drew] at h9); omega)
  have NE := Lib.hid (E.out.on hb3)
  have E := NE; clear NE
  have Hb3 := Lib.hid (bthen Hb2.out hb3)
  clear hb3
  have Hg := Lib.hid (gdB_tm (a := a) (b := b) (p := p))
  generalize coreI a b = c at Hg ⊢
  go_wp2
  go_ret
  exact ⟨by rw [← Hg.out] <;> rfl, Hb3.out⟩
set_option linter.unusedSimpArgs false in
set_option maxHeartbeats 3200000 in
theorem fmGood_any (a b : Int) (p : Nat) (w : World) (hc : curveB a b = true) (hp : pr4 p) :
    Calls Tryz.prog 57 #[.agg #[.int .i64 a, .int .i64 b], .int .i64 (p : Int)] w fun e w' => e = .returned (.bool (gdB a b p)) ∧ Below w.heap.size w w' := by
  have hpl := pr4_le hp
  have hd5 : decide ((5 : Int) ≤ (p : Int)) = true := decide_eq_true (by omega)
  obtain ⟨ha, hb⟩ := curveB_bd hc
  have Hc := Lib.hid hc; clear hc
  go_enter Tryz.func57, Tryz.ntmps57
  have hgm := md_bd (coreI a b) (p := (p : Int)) (by omega)
  go_wp2_with fail
  refine (cvS_lit Hc.out _).mono ?_; rintro e w1 ⟨rfl, hb1⟩
  have S1 := Lib.hid (show w.heap.size + 1 ≤ w1.heap.size by have h9 := hb1.size; (try simp only [World.size_alloc, World.size_setCell, World.size_drew] at h9); omega)
  have NE := Lib.hid ((Blk.new w 25 #[.int .i64 a, .int .i64 b]).on hb1)
  have E := NE; clear NE
  have Hb1 := Lib.hid (bthen (bal (Below.refl w.heap.size w) (Obj.cells #[.int .i64 a, .int .i64 b] 25)) hb1)
  clear hb1
  go_wp2_with fail
  refine (mdPr_lit (prB4 hp) _ (by omega)).mono ?_; rintro e w2 ⟨rfl, hb2⟩
  have S2 := Lib.hid (show w1.heap.size + 0 ≤ w2.heap.size by have h9 := hb2.size; (try simp only [World.size_alloc, World.size_setCell, World.size_drew] at h9); omega)
  have NE := Lib.hid (E.out.on hb2)
  have E := NE; clear NE
  have Hb2 := Lib.hid (bthen Hb1.out hb2)
  clear hb2
  have qE0 : w2.cell? ⟨w.heap.size, 0, none⟩ = some (.int .i64 a) := E.out.cell 0
  have qE1 : w2.cell? ⟨w.heap.size, 1, none⟩ = some (.int .i64 b) := E.out.cell 1
  have qEl := E.out.lt
  go_wp2_with fail
  clear qE0 qE1 qEl
  refine (ecDisc_any _ _ _ ha.1 ha.2 hb.1 hb.2).mono ?_; rintro e w3 ⟨rfl, hb3⟩
  have S3 := Lib.hid (show w2.heap.size + 0 ≤ w3.heap.size by have h9 := hb3.size; (try simp only [World.size_alloc, World.size_setCell, World.size_drew] at h9); omega)
  have NE := Lib.hid (E.out.on hb3)
  have E := NE; clear NE
  have Hb3 := Lib.hid (bthen Hb2.out hb3)
  clear hb3
  go_wp2_with fail
  refine (mdMod_any _ _ _ (by omega) (by omega)).mono ?_; rintro e w9 ⟨rfl, rfl⟩
  have Hg := Lib.hid (gdB_em (a := a) (b := b) (p := p))
  go_wp2
  go_ret
  exact ⟨by rw [← Hg.out] <;> rfl, Hb3.out⟩
set_option linter.unusedSimpArgs false in
set_option maxHeartbeats 3200000 in
theorem cpI_any (a b : Int) (p : Nat) (w : World) (hc : curveB a b = true) (hp : pr4 p) :
    Calls Tryz.prog 16 #[.agg #[.int .i64 a, .int .i64 b], .int .i64 (p : Int)] w fun e w' => e = .returned (.tuple #[.int .i64 (nPts a b p), .bool (gdB a b p)]) ∧ Below w.heap.size w w' := by
  have hpl := pr4_le hp
  obtain ⟨ha, hb⟩ := curveB_bd hc
  have Hc := Lib.hid hc; clear hc
  have Hg := Lib.hid (fun w9 => isGood_any a b p w9 ha hb hp)
  have Hn := Lib.hid (show nPts a b p = if gdB a b p = true then cntV p a b else 0 from rfl)
  generalize nPts a b p = N at Hn
  generalize gdB a b p = g at Hg Hn ⊢
  go_enter Tryz.func16, Tryz.ntmps16
  go_wp2_with fail
  refine (cvI_lit Hc.out _).mono ?_; rintro e w1 ⟨rfl, hb1⟩
  have S1 := Lib.hid (show w.heap.size + 1 ≤ w1.heap.size by have h9 := hb1.size; (try simp only [World.size_alloc, World.size_setCell, World.size_drew] at h9); omega)
  have NE := Lib.hid ((Blk.new w 25 #[.int .i64 a, .int .i64 b]).on hb1)
  have E := NE; clear NE
  have Hb1 := Lib.hid (bthen (bal (Below.refl w.heap.size w) (Obj.cells #[.int .i64 a, .int .i64 b] 25)) hb1)
  clear hb1
  have qE0 : w1.cell? ⟨w.heap.size, 0, none⟩ = some (.int .i64 a) := E.out.cell 0
  have qE1 : w1.cell? ⟨w.heap.size, 1, none⟩ = some (.int .i64 b) := E.out.cell 1
  have qEl := E.out.lt
  go_wp2_with fail
  clear qE0 qE1 qEl
  refine (Hg.out _).mono ?_; rintro e w2 ⟨rfl, hb2⟩
  have S2 := Lib.hid (show w1.heap.size + 0 ≤ w2.heap.size by have h9 := hb2.size; (try simp only [World.size_alloc, World.size_setCell, World.size_drew] at h9); omega)
  have NE := Lib.hid (E.out.on hb2)
  have E := NE; clear NE
  have Hb2 := Lib.hid (bthen Hb1.out hb2)
  clear hb2
  cases g
  · have Hn2 := Lib.hid (show N = 0 from Hn.out)
    go_wp2
    go_ret2
    exact ⟨by rw [Hn2.out] <;> rfl, Hb2.out⟩
  · have Hn2 := Lib.hid (show N = cntV p a b from Hn.out)
    have qE0 : w2.cell? ⟨w.heap.size, 0, none⟩ = some (.int .i64 a) := E.out.cell 0
    have qE1 : w2.cell? ⟨w.heap.size, 1, none⟩ = some (.int .i64 b) := E.out.cell 1
    have qEl := E.out.lt
    go_wp2_with fail
    clear qE0 qE1 qEl
    refine (countI_any a b p _ ha hb hp).mono ?_; rintro e w3 ⟨rfl, hb3⟩
    have S3 := Lib.hid (show w2.heap.size + 0 ≤ w3.heap.size by have h9 := hb3.size; (try simp only [World.size_alloc, World.size_setCell, World.size_drew] at h9); omega)
    have NE := Lib.hid (E.out.on hb3)
    have E := NE; clear NE
    have Hb3 := Lib.hid (bthen Hb2.out hb3)
    clear hb3
    go_wp2
    go_ret2
    exact ⟨by rw [Hn2.out] <;> rfl, Hb3.out⟩
set_option linter.unusedSimpArgs false in
set_option maxHeartbeats 3200000 in
theorem cpS_any (a b : Int) (p : Nat) (w : World) (hc : curveB a b = true) (hp : pr4 p) :
    Calls Tryz.prog 17 #[.agg #[.int .i64 a, .int .i64 b], .int .i64 (p : Int)] w fun e w' => e = .returned (.tuple #[.int .i64 (nPts a b p), .bool (gdB a b p)]) ∧ Below w.heap.size w w' := by
  have hpl := pr4_le hp
  obtain ⟨ha, hb⟩ := curveB_bd hc
  have Hc := Lib.hid hc; clear hc
  have Hg := Lib.hid (fun w9 => fmGood_any a b p w9 Hc.out hp)
  have Hn := Lib.hid (show nPts a b p = if gdB a b p = true then cntV p a b else 0 from rfl)
  generalize nPts a b p = N at Hn
  generalize gdB a b p = g at Hg Hn ⊢
  go_enter Tryz.func17, Tryz.ntmps17
  go_wp2_with fail
  refine (Hg.out _).mono ?_; rintro e w1 ⟨rfl, hb1⟩
  have S1 := Lib.hid (show w.heap.size + 1 ≤ w1.heap.size by have h9 := hb1.size; (try simp only [World.size_alloc, World.size_setCell, World.size_drew] at h9); omega)
  have NE := Lib.hid ((Blk.new w 25 #[.int .i64 a, .int .i64 b]).on hb1)
  have E := NE; clear NE
  have Hb1 := Lib.hid (bthen (bal (Below.refl w.heap.size w) (Obj.cells #[.int .i64 a, .int .i64 b] 25)) hb1)
  clear hb1
  cases g
  · have Hn2 := Lib.hid (show N = 0 from Hn.out)
    go_wp2
    go_ret2
    exact ⟨by rw [Hn2.out] <;> rfl, Hb1.out⟩
  · have Hn2 := Lib.hid (show N = cntV p a b from Hn.out)
    have qE0 : w1.cell? ⟨w.heap.size, 0, none⟩ = some (.int .i64 a) := E.out.cell 0
    have qE1 : w1.cell? ⟨w.heap.size, 1, none⟩ = some (.int .i64 b) := E.out.cell 1
    have qEl := E.out.lt
    go_wp2_with fail
    clear qE0 qE1 qEl
    refine (countS_any a b p _ ha hb hp).mono ?_; rintro e w2 ⟨rfl, hb2⟩
    have S2 := Lib.hid (show w1.heap.size + 0 ≤ w2.heap.size by have h9 := hb2.size; (try simp only [World.size_alloc, World.size_setCell, World.size_drew] at h9); omega)
    have NE := Lib.hid (E.out.on hb2)
    have E := NE; clear NE
    have Hb2 := Lib.hid (bthen Hb1.out hb2)
    clear hb2
    go_wp2
    go_ret2
    exact ⟨by rw [Hn2.out] <;> rfl, Hb2.out⟩
end
section
open Go Go.RowKit

theorem ask_ins {a b e : Int} (hc : curveB a b = true) : askB a b e = (insB e (-200) 200 && decide (evZ a b e = 0)) := by
  unfold askB
  rw [hc, Bool.true_and, Bool.eq_iff_iff, Bool.and_eq_true, decide_eq_true_eq, decide_eq_true_eq, roots_mem hc]
  refine ⟨fun h => ⟨?_, h⟩, fun h => h.2⟩
  obtain ⟨h1, h2⟩ := root_bd ((roots_mem hc).2 h)
  exact insB_mk (by omega) (by omega)
set_option linter.unusedSimpArgs false in
set_option maxRecDepth 8000 in
set_option maxHeartbeats 16000000 in
theorem isTwo_any (a b e : Int) (w : World) (hc : curveB a b = true) :
    Calls Tryz.prog 45 #[.agg #[.int .i64 a, .int .i64 b], .int .i64 e] w fun r w' => r = .returned (.bool (askB a b e)) ∧ Below w.heap.size w w' := by
  have hask : askB a b e = (insB e (-200) 200 && decide (evZ a b e = 0)) := ask_ins hc
  rw [hask]
  clear hask
  obtain ⟨ha, hb⟩ := curveB_bd hc
  clear hc
  cases hin : insB e (-200) 200
  · have Hin := Lib.hid hin; clear hin
    go_enter Tryz.func45, Tryz.ntmps45
    go_wp2_with fail
    refine (inside_lit Hin.out _).mono ?_; rintro e w1 ⟨rfl, hb1⟩
    have S1 := Lib.hid (show w.heap.size + 1 ≤ w1.heap.size by have h9 := hb1.size; (try simp only [World.size_alloc, World.size_setCell, World.size_drew] at h9); omega)
    have NC := Lib.hid ((Blk.new w 25 #[.int .i64 a, .int .i64 b]).on hb1)
    have C := NC; clear NC
    have Hb1 := Lib.hid (bthen (bal (Below.refl w.heap.size w) (Obj.cells #[.int .i64 a, .int .i64 b] 25)) hb1)
    clear hb1
    go_wp2
    go_ret
    exact ⟨rfl, Hb1.out⟩
  · obtain ⟨e1, e2⟩ := insB_true hin
    obtain ⟨m1, m2⟩ := mul_bd e e 200 200 e1 e2 e1 e2
    obtain ⟨m3, m4⟩ := mul_bd (e * e) e 40000 200 (by omega) (by omega) e1 e2
    obtain ⟨m5, m6⟩ := mul_bd a e 1000 200 ha.1 ha.2 e1 e2
    have Hev := Lib.hid (show evZ a b e = e * e * e + a * e + b from rfl)
    have Hin := Lib.hid hin; clear hin
    go_enter Tryz.func45, Tryz.ntmps45
    go_wp2_with fail
    refine (inside_lit Hin.out _).mono ?_; rintro e w2 ⟨rfl, hb2⟩
    have S2 := Lib.hid (show w.heap.size + 1 ≤ w2.heap.size by have h9 := hb2.size; (try simp only [World.size_alloc, World.size_setCell, World.size_drew] at h9); omega)
    have NC := Lib.hid ((Blk.new w 25 #[.int .i64 a, .int .i64 b]).on hb2)
    have C := NC; clear NC
    have Hb2 := Lib.hid (bthen (bal (Below.refl w.heap.size w) (Obj.cells #[.int .i64 a, .int .i64 b] 25)) hb2)
    clear hb2
    have qC0 : w2.cell? ⟨w.heap.size, 0, none⟩ = some (.int .i64 a) := C.out.cell 0
    have qC1 : w2.cell? ⟨w.heap.size, 1, none⟩ = some (.int .i64 b) := C.out.cell 1
    have qCl := C.out.lt
    go_wp2
    clear qC0 qC1 qCl
    go_ret
    exact ⟨by rw [Hev.out]; rfl, Hb2.out⟩
theorem isTwo_lit {a b e : Int} {k : Bool} (h : askB a b e = k) (hc : curveB a b = true) (w : World) : Calls Tryz.prog 45 #[.agg #[.int .i64 a, .int .i64 b], .int .i64 e] w fun r w' => r = .returned (.bool k) ∧ Below w.heap.size w w' := by
  rw [← h]; exact isTwo_any a b e w hc
/-- What RawNeighbour answers. -/
def rwV (a b e : Int) : Int × Int × Bool := if askB a b e = true then (rawA a e, rawB a b e, true) else (0, 0, false)
theorem rwV_no {a b e : Int} (h : askB a b e = false) : rwV a b e = (0, 0, false) := by unfold rwV; rw [if_neg (by rw [h]; exact Bool.false_ne_true)]
theorem rwV_yes {a b e : Int} (h : askB a b e = true) : rwV a b e = (rawA a e, rawB a b e, true) := by unfold rwV; rw [if_pos h]
theorem nqV_no {a b e : Int} (h : askB a b e = false) : nqV a b e = none := by unfold nqV; rw [if_neg (by rw [h]; exact Bool.false_ne_true)]
theorem nqV_yes {a b e : Int} (h : askB a b e = true) : nqV a b e = nbV a b e := by unfold nqV; rw [if_pos h]
set_option linter.unusedSimpArgs false in
set_option maxRecDepth 8000 in
set_option maxHeartbeats 16000000 in
theorem rwI_any (a b e : Int) (w : World) :
    Calls Tryz.prog 10 #[.agg #[.int .i64 a, .int .i64 b], .int .i64 e] w fun r w' => r = .returned (.tuple #[.int .i64 (rwV a b e).1, .int .i64 (rwV a b e).2.1, .bool (rwV a b e).2.2]) ∧ Below w.heap.size w w' := by
  cases hcv : curveB a b
  · have Hk : Hid (askB a b e = false) := Lib.hid (by unfold askB; rw [hcv]; rfl)
    have Hcv := Lib.hid hcv; clear hcv
    go_enter Tryz.func10, Tryz.ntmps10
    go_wp2_with fail
    refine (cvI_lit Hcv.out _).mono ?_; rintro e w1 ⟨rfl, hb1⟩
    have S1 := Lib.hid (show w.heap.size + 1 ≤ w1.heap.size by have h9 := hb1.size; (try simp only [World.size_alloc, World.size_setCell, World.size_drew] at h9); omega)
    have NC := Lib.hid ((Blk.new w 25 #[.int .i64 a, .int .i64 b]).on hb1)
    have C := NC; clear NC
    have Hb1 := Lib.hid (bthen (bal (Below.refl w.heap.size w) (Obj.cells #[.int .i64 a, .int .i64 b] 25)) hb1)
    clear hb1
    go_wp2
    exact bodyPost_ret (v := .tuple #[.int .i64 0, .int .i64 0, .bool false]) (by simp [results, Tryz.results10, go_sem]) rfl ⟨by rw [rwV_no Hk.out], Hb1.out⟩
  · cases hk : askB a b e
    · have Hk := Lib.hid hk; have Hcv := Lib.hid hcv; clear hk hcv
      go_enter Tryz.func10, Tryz.ntmps10
      go_wp2_with fail
      refine (cvI_lit Hcv.out _).mono ?_; rintro e w2 ⟨rfl, hb2⟩
      have S2 := Lib.hid (show w.heap.size + 1 ≤ w2.heap.size by have h9 := hb2.size; (try simp only [World.size_alloc, World.size_setCell, World.size_drew] at h9); omega)
      have NC := Lib.hid ((Blk.new w 25 #[.int .i64 a, .int .i64 b]).on hb2)
      have C := NC; clear NC
      have Hb2 := Lib.hid (bthen (bal (Below.refl w.heap.size w) (Obj.cells #[.int .i64 a, .int .i64 b] 25)) hb2)
      clear hb2
      have qC0 : w2.cell? ⟨w.heap.size, 0, none⟩ = some (.int .i64 a) := C.out.cell 0
      have qC1 : w2.cell? ⟨w.heap.size, 1, none⟩ = some (.int .i64 b) := C.out.cell 1
      have qCl := C.out.lt
      go_wp2_with fail
      clear qC0 qC1 qCl
      refine (isTwo_lit Hk.out Hcv.out _).mono ?_; rintro e w3 ⟨rfl, hb3⟩
      have S3 := Lib.hid (show w2.heap.size + 0 ≤ w3.heap.size by have h9 := hb3.size; (try simp only [World.size_alloc, World.size_setCell, World.size_drew] at h9); omega)
      have NC := Lib.hid (C.out.on hb3)
      have C := NC; clear NC
      have Hb3 := Lib.hid (bthen Hb2.out hb3)
      clear hb3
      go_wp2
      exact bodyPost_ret (v := .tuple #[.int .i64 0, .int .i64 0, .bool false]) (by simp [results, Tryz.results10, go_sem]) rfl ⟨by rw [rwV_no Hk.out], Hb3.out⟩
    · obtain ⟨-, hev, he⟩ := ask_bd hk
      obtain ⟨ha, hb⟩ := curveB_bd hcv
      have Hk := Lib.hid hk; have Hcv := Lib.hid hcv; clear hk hcv
      go_enter Tryz.func10, Tryz.ntmps10
      go_wp2_with fail
      refine (cvI_lit Hcv.out _).mono ?_; rintro e w4 ⟨rfl, hb4⟩
      have S4 := Lib.hid (show w.heap.size + 1 ≤ w4.heap.size by have h9 := hb4.size; (try simp only [World.size_alloc, World.size_setCell, World.size_drew] at h9); omega)
      have NC := Lib.hid ((Blk.new w 25 #[.int .i64 a, .int .i64 b]).on hb4)
      have C := NC; clear NC
      have Hb4 := Lib.hid (bthen (bal (Below.refl w.heap.size w) (Obj.cells #[.int .i64 a, .int .i64 b] 25)) hb4)
      clear hb4
      have qC0 : w4.cell? ⟨w.heap.size, 0, none⟩ = some (.int .i64 a) := C.out.cell 0
      have qC1 : w4.cell? ⟨w.heap.size, 1, none⟩ = some (.int .i64 b) := C.out.cell 1
      have qCl := C.out.lt
      go_wp2_with fail
      clear qC0 qC1 qCl
      refine (isTwo_lit Hk.out Hcv.out _).mono ?_; rintro e w5 ⟨rfl, hb5⟩
      have S5 := Lib.hid (show w4.heap.size + 0 ≤ w5.heap.size by have h9 := hb5.size; (try simp only [World.size_alloc, World.size_setCell, World.size_drew] at h9); omega)
      have NC := Lib.hid (C.out.on hb5)
      have C := NC; clear NC
      have Hb5 := Lib.hid (bthen Hb4.out hb5)
      clear hb5
      have qC0 : w5.cell? ⟨w.heap.size, 0, none⟩ = some (.int .i64 a) := C.out.cell 0
      have qC1 : w5.cell? ⟨w.heap.size, 1, none⟩ = some (.int .i64 b) := C.out.cell 1
      have qCl := C.out.lt
      go_wp2_with fail
      clear qC0 qC1 qCl
      refine (rawI_any a b e _ ha hb he).mono ?_; rintro e w6 ⟨rfl, hb6⟩
      have S6 := Lib.hid (show w5.heap.size + 0 ≤ w6.heap.size by have h9 := hb6.size; (try simp only [World.size_alloc, World.size_setCell, World.size_drew] at h9); omega)
      have NC := Lib.hid (C.out.on hb6)
      have C := NC; clear NC
      have Hb6 := Lib.hid (bthen Hb5.out hb6)
      clear hb6
      go_wp2
      exact bodyPost_ret (v := .tuple #[.int .i64 (rawA a e), .int .i64 (rawB a b e), .bool true]) (by simp [results, Tryz.results10, go_sem]) rfl ⟨by rw [rwV_yes Hk.out], Hb6.out⟩
set_option linter.unusedSimpArgs false in
set_option maxRecDepth 8000 in
set_option maxHeartbeats 16000000 in
theorem rwS_any (a b e : Int) (w : World) :
    Calls Tryz.prog 11 #[.agg #[.int .i64 a, .int .i64 b], .int .i64 e] w fun r w' => r = .returned (.tuple #[.int .i64 (rwV a b e).1, .int .i64 (rwV a b e).2.1, .bool (rwV a b e).2.2]) ∧ Below w.heap.size w w' := by
  cases hk : askB a b e
  · have Hk := Lib.hid hk; clear hk
    go_enter Tryz.func11, Tryz.ntmps11
    go_wp2_with fail
    refine (ask_lit Hk.out _).mono ?_; rintro e w1 ⟨rfl, hb1⟩
    have S1 := Lib.hid (show w.heap.size + 1 ≤ w1.heap.size by have h9 := hb1.size; (try simp only [World.size_alloc, World.size_setCell, World.size_drew] at h9); omega)
    have NC := Lib.hid ((Blk.new w 25 #[.int .i64 a, .int .i64 b]).on hb1)
    have C := NC; clear NC
    have Hb1 := Lib.hid (bthen (bal (Below.refl w.heap.size w) (Obj.cells #[.int .i64 a, .int .i64 b] 25)) hb1)
    clear hb1
    go_wp2
    exact bodyPost_ret (v := .tuple #[.int .i64 0, .int .i64 0, .bool false]) (by simp [results, Tryz.results11, go_sem]) rfl ⟨by rw [rwV_no Hk.out], Hb1.out⟩
  · obtain ⟨hc, hev, he⟩ := ask_bd hk
    obtain ⟨ha, hb⟩ := curveB_bd hc
    have Hk := Lib.hid hk; clear hk
    go_enter Tryz.func11, Tryz.ntmps11
    go_wp2_with fail
    refine (ask_lit Hk.out _).mono ?_; rintro e w2 ⟨rfl, hb2⟩
    have S2 := Lib.hid (show w.heap.size + 1 ≤ w2.heap.size by have h9 := hb2.size; (try simp only [World.size_alloc, World.size_setCell, World.size_drew] at h9); omega)
    have NC := Lib.hid ((Blk.new w 25 #[.int .i64 a, .int .i64 b]).on hb2)
    have C := NC; clear NC
    have Hb2 := Lib.hid (bthen (bal (Below.refl w.heap.size w) (Obj.cells #[.int .i64 a, .int .i64 b] 25)) hb2)
    clear hb2
    have qC0 : w2.cell? ⟨w.heap.size, 0, none⟩ = some (.int .i64 a) := C.out.cell 0
    have qC1 : w2.cell? ⟨w.heap.size, 1, none⟩ = some (.int .i64 b) := C.out.cell 1
    have qCl := C.out.lt
    go_wp2_with fail
    clear qC0 qC1 qCl
    refine (rawS_any a b e _ ha hb he).mono ?_; rintro e w3 ⟨rfl, hb3⟩
    have S3 := Lib.hid (show w2.heap.size + 0 ≤ w3.heap.size by have h9 := hb3.size; (try simp only [World.size_alloc, World.size_setCell, World.size_drew] at h9); omega)
    have NC := Lib.hid (C.out.on hb3)
    have C := NC; clear NC
    have Hb3 := Lib.hid (bthen Hb2.out hb3)
    clear hb3
    go_wp2
    exact bodyPost_ret (v := .tuple #[.int .i64 (rawA a e), .int .i64 (rawB a b e), .bool true]) (by simp [results, Tryz.results11, go_sem]) rfl ⟨by rw [rwV_yes Hk.out], Hb3.out⟩
set_option linter.unusedSimpArgs false in
set_option maxRecDepth 8000 in
set_option maxHeartbeats 16000000 in
theorem nqI_any (a b e : Int) (w : World) :
    Calls Tryz.prog 8 #[.agg #[.int .i64 a, .int .i64 b], .int .i64 e] w fun r w' => CuR (nqV a b e) r ∧ Below w.heap.size w w' := by
  cases hcv : curveB a b
  · have Hk : Hid (askB a b e = false) := Lib.hid (by unfold askB; rw [hcv]; rfl)
    have Hcv := Lib.hid hcv; clear hcv
    go_enter Tryz.func8, Tryz.ntmps8
    go_wp2_with fail
    refine (cvI_lit Hcv.out _).mono ?_; rintro e w1 ⟨rfl, hb1⟩
    have S1 := Lib.hid (show w.heap.size + 2 ≤ w1.heap.size by have h9 := hb1.size; (try simp only [World.size_alloc, World.size_setCell, World.size_drew] at h9); omega)
    have NC := Lib.hid (((Blk.new w 25 #[.int .i64 a, .int .i64 b]).alloc (Obj.cells #[.int .i64 0, .int .i64 0] 25)).on hb1)
    have NR := Lib.hid ((show Blk (World.alloc (World.alloc w (Obj.cells #[.int .i64 a, .int .i64 b] 25)) (Obj.cells #[.int .i64 0, .int .i64 0] 25)) (w.heap.size + 1) 25 #[.int .i64 0, .int .i64 0] by have h9 := (Blk.new (World.alloc w (Obj.cells #[.int .i64 a, .int .i64 b] 25)) 25 #[.int .i64 0, .int .i64 0]); (try simp only [World.size_alloc, World.size_setCell] at h9); exact h9).on hb1)
    have C := NC; clear NC
    have R := NR; clear NR
    have Hb1 := Lib.hid (bthen (bal (bal (Below.refl w.heap.size w) (Obj.cells #[.int .i64 a, .int .i64 b] 25)) (Obj.cells #[.int .i64 0, .int .i64 0] 25)) hb1)
    clear hb1
    have qR0 : w1.cell? ⟨w.heap.size + 1, 0, none⟩ = some (.int .i64 0) := R.out.cell 0
    have qR1 : w1.cell? ⟨w.heap.size + 1, 1, none⟩ = some (.int .i64 0) := R.out.cell 1
    have qRl := R.out.lt
    have qRf0 := R.out.frozen 0
    have qRf1 := R.out.frozen 1
    go_wp2
    clear qR0 qR1 qRl qRf0 qRf1
    have R9R := (show Blk (World.setCell (World.setCell w1 ⟨w.heap.size + 1, 0, none⟩ (.int .i64 0)) ⟨w.heap.size + 1, 1, none⟩ (.int .i64 0)) (w.heap.size + 1) 25 #[.int .i64 0, .int .i64 0] by have h9 := ((R.out.set 0 (.int .i64 0)).set 1 (.int .i64 0)); simpa using h9)
    have kR0 := R9R.cell 0
    have kR1 := R9R.cell 1
    simp at kR0 kR1
    exact bodyPost_ret (v := .tuple #[.agg #[.int .i64 0, .int .i64 0], .bool false]) (by simp [results, Tryz.results8, go_sem, kR0, kR1]) rfl ⟨by rw [nqV_no Hk.out]; rfl, (bst (bst Hb1.out (p := ⟨w.heap.size + 1, 0, none⟩) (show w.heap.size ≤ w.heap.size + 1 by have := S1.out; (try simp only [World.size_alloc, World.size_setCell, World.size_drew]); omega) (.int .i64 0)) (p := ⟨w.heap.size + 1, 1, none⟩) (show w.heap.size ≤ w.heap.size + 1 by have := S1.out; (try simp only [World.size_alloc, World.size_setCell, World.size_drew]); omega) (.int .i64 0))⟩
  · cases hk : askB a b e
    · have Hk := Lib.hid hk; have Hcv := Lib.hid hcv; clear hk hcv
      go_enter Tryz.func8, Tryz.ntmps8
      go_wp2_with fail
      refine (cvI_lit Hcv.out _).mono ?_; rintro e w2 ⟨rfl, hb2⟩
      have S2 := Lib.hid (show w.heap.size + 2 ≤ w2.heap.size by have h9 := hb2.size; (try simp only [World.size_alloc, World.size_setCell, World.size_drew] at h9); omega)
      have NC := Lib.hid (((Blk.new w 25 #[.int .i64 a, .int .i64 b]).alloc (Obj.cells #[.int .i64 0, .int .i64 0] 25)).on hb2)
      have NR := Lib.hid ((show Blk (World.alloc (World.alloc w (Obj.cells #[.int .i64 a, .int .i64 b] 25)) (Obj.cells #[.int .i64 0, .int .i64 0] 25)) (w.heap.size + 1) 25 #[.int .i64 0, .int .i64 0] by have h9 := (Blk.new (World.alloc w (Obj.cells #[.int .i64 a, .int .i64 b] 25)) 25 #[.int .i64 0, .int .i64 0]); (try simp only [World.size_alloc, World.size_setCell] at h9); exact h9).on hb2)
      have C := NC; clear NC
      have R := NR; clear NR
      have Hb2 := Lib.hid (bthen (bal (bal (Below.refl w.heap.size w) (Obj.cells #[.int .i64 a, .int .i64 b] 25)) (Obj.cells #[.int .i64 0, .int .i64 0] 25)) hb2)
      clear hb2
      have qC0 : w2.cell? ⟨w.heap.size, 0, none⟩ = some (.int .i64 a) := C.out.cell 0
      have qC1 : w2.cell? ⟨w.heap.size, 1, none⟩ = some (.int .i64 b) := C.out.cell 1
      have qCl := C.out.lt
      go_wp2_with fail
      clear qC0 qC1 qCl
      refine (isTwo_lit Hk.out Hcv.out _).mono ?_; rintro e w3 ⟨rfl, hb3⟩
      have S3 := Lib.hid (show w2.heap.size + 0 ≤ w3.heap.size by have h9 := hb3.size; (try simp only [World.size_alloc, World.size_setCell, World.size_drew] at h9); omega)
      have NC := Lib.hid (C.out.on hb3)
      have NR := Lib.hid (R.out.on hb3)
      have C := NC; clear NC
      have R := NR; clear NR
      have Hb3 := Lib.hid (bthen Hb2.out hb3)
      clear hb3
      have qR0 : w3.cell? ⟨w.heap.size + 1, 0, none⟩ = some (.int .i64 0) := R.out.cell 0
      have qR1 : w3.cell? ⟨w.heap.size + 1, 1, none⟩ = some (.int .i64 0) := R.out.cell 1
      have qRl := R.out.lt
      have qRf0 := R.out.frozen 0
      have qRf1 := R.out.frozen 1
      go_wp2
      clear qR0 qR1 qRl qRf0 qRf1
      have R9R := (show Blk (World.setCell (World.setCell w3 ⟨w.heap.size + 1, 0, none⟩ (.int .i64 0)) ⟨w.heap.size + 1, 1, none⟩ (.int .i64 0)) (w.heap.size + 1) 25 #[.int .i64 0, .int .i64 0] by have h9 := ((R.out.set 0 (.int .i64 0)).set 1 (.int .i64 0)); simpa using h9)
      have kR0 := R9R.cell 0
      have kR1 := R9R.cell 1
      simp at kR0 kR1
      exact bodyPost_ret (v := .tuple #[.agg #[.int .i64 0, .int .i64 0], .bool false]) (by simp [results, Tryz.results8, go_sem, kR0, kR1]) rfl ⟨by rw [nqV_no Hk.out]; rfl, (bst (bst Hb3.out (p := ⟨w.heap.size + 1, 0, none⟩) (show w.heap.size ≤ w.heap.size + 1 by have := S2.out; have := S3.out; (try simp only [World.size_alloc, World.size_setCell, World.size_drew]); omega) (.int .i64 0)) (p := ⟨w.heap.size + 1, 1, none⟩) (show w.heap.size ≤ w.heap.size + 1 by have := S2.out; have := S3.out; (try simp only [World.size_alloc, World.size_setCell, World.size_drew]); omega) (.int .i64 0))⟩
    · obtain ⟨-, hev, he⟩ := ask_bd hk
      obtain ⟨ha, hb⟩ := curveB_bd hcv
      have Hk := Lib.hid hk; have Hcv := Lib.hid hcv; clear hk hcv
      go_enter Tryz.func8, Tryz.ntmps8
      go_wp2_with fail
      refine (cvI_lit Hcv.out _).mono ?_; rintro e w4 ⟨rfl, hb4⟩
      have S4 := Lib.hid (show w.heap.size + 2 ≤ w4.heap.size by have h9 := hb4.size; (try simp only [World.size_alloc, World.size_setCell, World.size_drew] at h9); omega)
      have NC := Lib.hid (((Blk.new w 25 #[.int .i64 a, .int .i64 b]).alloc (Obj.cells #[.int .i64 0, .int .i64 0] 25)).on hb4)
      have NR := Lib.hid ((show Blk (World.alloc (World.alloc w (Obj.cells #[.int .i64 a, .int .i64 b] 25)) (Obj.cells #[.int .i64 0, .int .i64 0] 25)) (w.heap.size + 1) 25 #[.int .i64 0, .int .i64 0] by have h9 := (Blk.new (World.alloc w (Obj.cells #[.int .i64 a, .int .i64 b] 25)) 25 #[.int .i64 0, .int .i64 0]); (try simp only [World.size_alloc, World.size_setCell] at h9); exact h9).on hb4)
      have C := NC; clear NC
      have R := NR; clear NR
      have Hb4 := Lib.hid (bthen (bal (bal (Below.refl w.heap.size w) (Obj.cells #[.int .i64 a, .int .i64 b] 25)) (Obj.cells #[.int .i64 0, .int .i64 0] 25)) hb4)
      clear hb4
      have qC0 : w4.cell? ⟨w.heap.size, 0, none⟩ = some (.int .i64 a) := C.out.cell 0
      have qC1 : w4.cell? ⟨w.heap.size, 1, none⟩ = some (.int .i64 b) := C.out.cell 1
      have qCl := C.out.lt
      go_wp2_with fail
      clear qC0 qC1 qCl
      refine (isTwo_lit Hk.out Hcv.out _).mono ?_; rintro e w5 ⟨rfl, hb5⟩
      have S5 := Lib.hid (show w4.heap.size + 0 ≤ w5.heap.size by have h9 := hb5.size; (try simp only [World.size_alloc, World.size_setCell, World.size_drew] at h9); omega)
      have NC := Lib.hid (C.out.on hb5)
      have NR := Lib.hid (R.out.on hb5)
      have C := NC; clear NC
      have R := NR; clear NR
      have Hb5 := Lib.hid (bthen Hb4.out hb5)
      clear hb5
      have Hn := Lib.hid (fun w9 => nbI_any a b e w9 Hcv.out hev he)
      have Hq := Lib.hid (nqV_yes Hk.out)
      have qC0 : w5.cell? ⟨w.heap.size, 0, none⟩ = some (.int .i64 a) := C.out.cell 0
      have qC1 : w5.cell? ⟨w.heap.size, 1, none⟩ = some (.int .i64 b) := C.out.cell 1
      have qCl := C.out.lt
      go_wp2_with fail
      clear qC0 qC1 qCl
      refine (Hn.out _).mono ?_; rintro r w6 ⟨hr, hb6⟩
      have S6 := Lib.hid (show w5.heap.size + 0 ≤ w6.heap.size by have h9 := hb6.size; (try simp only [World.size_alloc, World.size_setCell, World.size_drew] at h9); omega)
      have NC := Lib.hid (C.out.on hb6)
      have NR := Lib.hid (R.out.on hb6)
      have C := NC; clear NC
      have R := NR; clear NR
      have Hb6 := Lib.hid (bthen Hb5.out hb6)
      clear hb6
      cases hnb : nbV a b e with
      | none =>
        rw [hnb] at hr
        obtain rfl : r = .returned (.tuple #[.agg #[.int .i64 0, .int .i64 0], .bool false]) := hr
        have Hnb := Lib.hid hnb; clear hnb Hn
        have qR0 : w6.cell? ⟨w.heap.size + 1, 0, none⟩ = some (.int .i64 0) := R.out.cell 0
        have qR1 : w6.cell? ⟨w.heap.size + 1, 1, none⟩ = some (.int .i64 0) := R.out.cell 1
        have qRl := R.out.lt
        have qRf0 := R.out.frozen 0
        have qRf1 := R.out.frozen 1
        go_wp2
        clear qR0 qR1 qRl qRf0 qRf1
        have R9R := (show Blk (World.setCell (World.setCell w6 ⟨w.heap.size + 1, 0, none⟩ (.int .i64 0)) ⟨w.heap.size + 1, 1, none⟩ (.int .i64 0)) (w.heap.size + 1) 25 #[.int .i64 0, .int .i64 0] by have h9 := ((R.out.set 0 (.int .i64 0)).set 1 (.int .i64 0)); simpa using h9)
        have kR0 := R9R.cell 0
        have kR1 := R9R.cell 1
        simp at kR0 kR1
        exact bodyPost_ret (v := .tuple #[.agg #[.int .i64 0, .int .i64 0], .bool false]) (by simp [results, Tryz.results8, go_sem, kR0, kR1]) rfl ⟨by rw [Hq.out, Hnb.out]; rfl, (bst (bst Hb6.out (p := ⟨w.heap.size + 1, 0, none⟩) (show w.heap.size ≤ w.heap.size + 1 by have := S4.out; have := S5.out; have := S6.out; (try simp only [World.size_alloc, World.size_setCell, World.size_drew]); omega) (.int .i64 0)) (p := ⟨w.heap.size + 1, 1, none⟩) (show w.heap.size ≤ w.heap.size + 1 by have := S4.out; have := S5.out; have := S6.out; (try simp only [World.size_alloc, World.size_setCell, World.size_drew]); omega) (.int .i64 0))⟩
      | some d =>
        rw [hnb] at hr
        obtain rfl : r = .returned (.tuple #[.agg #[.int .i64 d.a, .int .i64 d.b], .bool true]) := hr
        have Hnb := Lib.hid hnb; clear hnb Hn
        have qR0 : w6.cell? ⟨w.heap.size + 1, 0, none⟩ = some (.int .i64 0) := R.out.cell 0
        have qR1 : w6.cell? ⟨w.heap.size + 1, 1, none⟩ = some (.int .i64 0) := R.out.cell 1
        have qRl := R.out.lt
        have qRf0 := R.out.frozen 0
        have qRf1 := R.out.frozen 1
        go_wp2
        clear qR0 qR1 qRl qRf0 qRf1
        have R9R := (show Blk (World.setCell (World.setCell w6 ⟨w.heap.size + 1, 0, none⟩ (.int .i64 d.a)) ⟨w.heap.size + 1, 1, none⟩ (.int .i64 d.b)) (w.heap.size + 1) 25 #[.int .i64 d.a, .int .i64 d.b] by have h9 := ((R.out.set 0 (.int .i64 d.a)).set 1 (.int .i64 d.b)); simpa using h9)
        have kR0 := R9R.cell 0
        have kR1 := R9R.cell 1
        simp at kR0 kR1
        exact bodyPost_ret (v := .tuple #[.agg #[.int .i64 d.a, .int .i64 d.b], .bool true]) (by simp [results, Tryz.results8, go_sem, kR0, kR1]) rfl ⟨by rw [Hq.out, Hnb.out]; rfl, (bst (bst Hb6.out (p := ⟨w.heap.size + 1, 0, none⟩) (show w.heap.size ≤ w.heap.size + 1 by have := S4.out; have := S5.out; have := S6.out; (try simp only [World.size_alloc, World.size_setCell, World.size_drew]); omega) (.int .i64 d.a)) (p := ⟨w.heap.size + 1, 1, none⟩) (show w.heap.size ≤ w.heap.size + 1 by have := S4.out; have := S5.out; have := S6.out; (try simp only [World.size_alloc, World.size_setCell, World.size_drew]); omega) (.int .i64 d.b))⟩
end
section
open Go Go.RowKit

theorem res_core {p : Nat} (hp : 0 < p) (a b : Int) : discN p (resN p a) (resN p b) = resN p (coreI a b) := by
  have A := Cg.res hp a
  have B := Cg.res hp b
  have h : Cg p _ _ := (((((Cg.nat 4).mul A).mul A).mul A).add (((Cg.nat 27).mul B).mul B))
  have e1 : coreI a b = ((4 : Nat) : Int) * a * a * a + ((27 : Nat) : Int) * b * b := by unfold coreI; grind
  rw [e1, h.eq]
  rfl
theorem gd_disc {p : Nat} (hp : 0 < p) {a b : Int} (h : gdB a b p = true) : discN p (resN p a) (resN p b) ≠ 0 := by
  unfold gdB at h
  have h1 := of_decide_eq_true h
  rw [res_core hp]
  intro e
  have h2 := resN_cast hp (coreI a b)
  rw [e] at h2
  exact h1 h2.symm
theorem cnt_eq {p : Nat} (hp : pr4 p) {a b e : Int} {d : Cu} (hc : curveB a b = true) (he : evZ a b e = 0) (hn : nbV a b e = some d) (h1 : gdB a b p = true) (h2 : gdB d.a d.b p = true) : nPts a b p = nPts d.a d.b p := by
  unfold nPts
  rw [if_pos h1, if_pos h2]
  exact count_nb hp hc he hn (gd_disc (by have := pr4_le hp; omega) h1)
/-- The way back is among the neighbours of a neighbour. -/
theorem back_mem {a b e : Int} {d : Cu} (hc : curveB a b = true) (he : evZ a b e = 0) (hn : nbV a b e = some d) (h2 : (allV d.a d.b).2 = true) : smC a b ∈ (allV d.a d.b).1 := by
  obtain ⟨hd, -⟩ := nbV_good hn
  obtain ⟨f, hf, hfn⟩ := nb_back hc he hn
  cases hl : nbsF d.a d.b (rootsV d.a d.b) with
  | none => rw [allV_no hl] at h2; cases h2
  | some l =>
    rw [allV_yes hl, setC_mem, nbsF_mem hl]
    exact ⟨f, (roots_mem hd).2 hf, hfn⟩
theorem mulG_mulF {x y z : Fq} (h : mulG x y = some z) : mulF 1000000000 x y = some z := by
  unfold mulG at h
  split at h
  · exact h
  · cases h
theorem sumG_addF {x y z : Fq} (h : sumG x y = some z) : addF 1000000000 x y = some z := by
  unfold sumG at h
  split at h
  · exact h
  · cases h
theorem good_okQ {x : Fq} (h : good x) : okQ x := by
  obtain ⟨⟨h1, -⟩, -, h2⟩ := frB_bd h
  refine ⟨by omega, ?_⟩
  have h3 : ((Int.gcd x.1 x.2 : Nat) : Int) = 1 := h2
  omega
theorem bind_some {α β : Type} {o : Option α} {f : α → Option β} {z : β} (h : (o.bind f) = some z) : ∃ x, o = some x ∧ f x = some z := by
  cases o with
  | none => cases h
  | some x => exact ⟨x, rfl, h⟩
theorem carry_end {a b e : Int} {x y u v p1 p2 p3 p4 p5 : Fq} (h : carV a b e x y = some (u, v)) (k1 : mulG v v = some p1) (k2 : mulG u u = some p2) (k3 : sumG p2 (rawA a e, 1) = some p3) (k4 : mulG p3 u = some p4) (k5 : sumG p4 (rawB a b e, 1) = some p5) : p5 = p1 := by
  unfold carV at h
  split at h
  · rename_i hc
    simp only [Bool.and_eq_true] at hc
    obtain ⟨⟨⟨hask, hx, hy⟩, -⟩, hon⟩ := hc
    obtain ⟨-, hev, -⟩ := ask_bd hask
    unfold crV at h
    obtain ⟨far, h6, h⟩ := bind_some h
    obtain ⟨ad, h7, h⟩ := bind_some h
    obtain ⟨u', h8, h⟩ := bind_some h
    obtain ⟨q, h9, h⟩ := bind_some h
    obtain ⟨le, h10, h⟩ := bind_some h
    obtain ⟨v', h11, h⟩ := bind_some h
    injection h with h
    obtain ⟨rfl, rfl⟩ := Prod.mk.inj h
    unfold onV at hon
    cases e1 : mulF 1000000000 y y with
    | none => rw [e1] at hon; cases hon
    | some s4 =>
      cases e2 : rhsV a b x with
      | none => rw [e1, e2] at hon; cases hon
      | some s5 =>
        rw [e1, e2] at hon
        have he := of_decide_eq_true hon
        subst he
        unfold rhsV at e2
        obtain ⟨s1, g1, e2⟩ := bind_some e2
        obtain ⟨s2, g2, e2⟩ := bind_some e2
        obtain ⟨s3, g3, e2⟩ := bind_some e2
        exact carry_law hev (good_okQ hx) (good_okQ hy) e1 g1 g2 g3 e2 h6 h7 h8 h9 h10 h11 (mulG_mulF k1) (mulG_mulF k2) (sumG_addF k3) (mulG_mulF k4) (sumG_addF k5)
  · cases h
theorem carV_ask {a b e : Int} {x y u v : Fq} (h : carV a b e x y = some (u, v)) : askB a b e = true := by
  unfold carV at h
  split at h
  · rename_i hc
    simp only [Bool.and_eq_true] at hc
    exact hc.1.1.1
  · cases h
end
end Go.Proofs.YtacehhcpfollnaaGreat
