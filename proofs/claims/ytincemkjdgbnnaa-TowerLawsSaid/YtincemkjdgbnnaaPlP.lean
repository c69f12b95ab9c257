/- Plain: the laws of a field, modulo a prime. No program in sight. Plain: powers modulo a prime. No program in sight. Plain: square roots modulo a prime (Euler's criterion; Tonelli's and Shanks' way). No program in sight. -/
import Derived.Test.YtincemkjdgbnnaaPrimes
import Derived.Test.YtincemkjdgbnnaaFieP
namespace Go.Proofs.Ytincemkjdgbnnaa
open Lm

theorem kprime {k : Int} (hk : isKind k) : NT.Prime (kP k) := by
  rcases hk with rfl | rfl | rfl | rfl | rfl | rfl
  · exact NT.prime_1
  · exact NT.prime_2
  · exact NT.prime_3
  · exact NT.prime_4
  · exact NT.prime_5
  · exact NT.prime_6

theorem eqv_of {x y : Nat} (h : x = y) : eqv x y = true := by subst h; simp [eqv]
theorem eqv_ne {x : Nat} (hx : x < B64 ^ 6) (h : x ≠ 0) : eqv x 0 = false := by rw [eqv_lt hx (pw_pos 6)]; exact decide_eq_false h
theorem pl_addc (P a b : Nat) : (a + b) % P = (b + a) % P := by rw [Nat.add_comm]
theorem pl_mulc (P a b : Nat) : a * b % P = b * a % P := by rw [Nat.mul_comm]
theorem pl_adda (P a b c : Nat) : ((a + b) % P + c) % P = (a + (b + c) % P) % P := by rw [Nat.mod_add_mod, Nat.add_mod_mod, Nat.add_assoc]
theorem pl_mula (P a b c : Nat) : a * b % P * c % P = a * (b * c % P) % P := by rw [Nat.mod_mul_mod, Nat.mul_mod_mod, Nat.mul_assoc]
theorem pl_dist (P a b c : Nat) : a * ((b + c) % P) % P = (a * b % P + a * c % P) % P := by rw [Nat.mul_mod_mod, Nat.mod_add_mod, Nat.add_mod_mod, Nat.mul_add]
theorem pl_neg {P : Nat} (hP : 0 < P) (a : Nat) : (a + ng P a % P) % P = 0 := by
  rw [Nat.add_mod_mod, ← Nat.mod_add_mod]
  unfold ng
  have := Nat.mod_lt a hP
  rw [Nat.add_sub_of_le (Nat.le_of_lt this), Nat.mod_self]
theorem pl_sub (P a b : Nat) : (a + ng P b) % P = (a + ng P b % P) % P := by rw [Nat.add_mod_mod]
theorem pl_one (P a : Nat) : a * 1 % P = a % P := by rw [Nat.mul_one]
theorem pl_red (P a : Nat) : a % P % P = a % P := Nat.mod_mod _ _
theorem pl_inv {P : Nat} (hP : NT.Prime P) (a b : Nat) (ha : a % P ≠ 0) : b * a % P * (a ^ (P - 2) % P) % P = b % P := by
  have h1 := hP.1
  have hf := NT.fermat hP (a := a) (fun h => ha (Nat.mod_eq_zero_of_dvd h))
  rw [Nat.mod_mul_mod, Nat.mul_mod_mod, Nat.mul_assoc, ← Nat.pow_succ', show (P - 2).succ = P - 1 by omega, Nat.mul_mod, hf, ← Nat.mul_mod, Nat.mul_one]
end Go.Proofs.Ytincemkjdgbnnaa

namespace Go.Proofs.Ytincemkjdgbnnaa
open Lm

theorem pl_fermat {P : Nat} (hP : NT.Prime P) (a : Nat) : a ^ P % P = a % P := by
  have h1 := hP.1
  by_cases h : P ∣ a
  · have h2 := Nat.mod_eq_zero_of_dvd h
    rw [h2, Nat.pow_mod, h2, Nat.zero_pow hP.pos, Nat.zero_mod]
  · have hf := NT.fermat hP h
    have e : a ^ P = a ^ (P - 1) * a := by rw [← Nat.pow_succ]; congr 1; omega
    rw [e, Nat.mul_mod, hf, ← Nat.mul_mod, Nat.one_mul]
theorem pl_pow (P a e f : Nat) : a ^ e % P * (a ^ f % P) % P = a ^ (e + f) % P := by rw [← Nat.mul_mod, Nat.pow_add]
theorem pl_pow0 {P : Nat} (hP : NT.Prime P) (a : Nat) : a ^ 0 % P = 1 := by rw [Nat.pow_zero]; exact Nat.mod_eq_of_lt hP.1
end Go.Proofs.Ytincemkjdgbnnaa

namespace Go.Proofs.Ytincemkjdgbnnaa
open Lm

theorem sq_pm {P x y : Nat} (hP : NT.Prime P) (h : x * x % P = y * y % P) : x % P = y % P ∨ (x + y) % P = 0 := by
  have key : ∀ x y : Nat, x ≤ y → x * x % P = y * y % P → x % P = y % P ∨ (x + y) % P = 0 := fun x y hle h => by
    have hd := NT.dvd_sub_of_mod_eq h
    rw [Nat.mul_self_sub_mul_self_eq] at hd
    rcases hP.dvd_mul hd with h1 | h1
    · exact .inr (by rw [Nat.add_comm]; exact Nat.mod_eq_zero_of_dvd h1)
    · exact .inl (NT.mod_eq_of_dvd_sub hle h1)
  rcases Nat.le_total x y with hle | hle
  · exact key x y hle h
  · rcases key y x hle h.symm with h1 | h1
    · exact .inl h1.symm
    · exact .inr (by rw [Nat.add_comm]; exact h1)
theorem m1_sq {P : Nat} (hP : 1 < P) : (P - 1) * (P - 1) % P = 1 := by
  obtain ⟨q, rfl⟩ : ∃ q, P = q + 2 := ⟨P - 2, by omega⟩
  rw [show q + 2 - 1 = q + 1 by omega, show (q + 1) * (q + 1) = 1 + (q + 2) * q by simp only [Nat.add_mul, Nat.mul_add]; omega, Nat.add_mul_mod_self_left]
  exact Nat.mod_eq_of_lt (by omega)
/-- the square roots of 1. -/
theorem sq_one {P x : Nat} (hP : NT.Prime P) (h : x * x % P = 1) : x % P = 1 ∨ x % P = P - 1 := by
  have h1 := hP.1
  rcases sq_pm hP (y := 1) (by rw [h, Nat.mul_one, Nat.mod_eq_of_lt h1]) with h2 | h2
  · left; rw [h2, Nat.mod_eq_of_lt h1]
  · right
    have h3 := Nat.mod_lt x hP.pos
    rw [← Nat.mod_add_mod] at h2
    rcases Nat.lt_or_ge (x % P + 1) P with h4 | h4
    · rw [Nat.mod_eq_of_lt h4] at h2; omega
    · omega
/-- Euler's criterion: 1, P - 1, or 0. -/
theorem euler_pm {P : Nat} (hP : NT.Prime P) (hodd : P % 2 = 1) (X : Nat) (hX : X % P ≠ 0) : X ^ ((P - 1) / 2) % P = 1 ∨ X ^ ((P - 1) / 2) % P = P - 1 := by
  refine sq_one hP ?_
  rw [← Nat.pow_add, show (P - 1) / 2 + (P - 1) / 2 = P - 1 by omega, NT.fermat hP (fun h => hX (Nat.mod_eq_zero_of_dvd h)), Nat.mod_eq_of_lt hP.1]
theorem euler_ne0 {P : Nat} (hP : NT.Prime P) {X : Nat} (hX : X % P ≠ 0) (e : Nat) : X ^ e % P ≠ 0 := fun h => hX (Nat.mod_eq_zero_of_dvd (hP.dvd_pow (Nat.dvd_of_mod_eq_zero h)))

/-- what the loop keeps: R squared is X times T; C's order is 2 to the power s; T's is less. -/
structure TS (P X s R C T : Nat) : Prop where
  s1 : 1 ≤ s
  rr : R * R % P = X * T % P
  cc : C ^ 2 ^ (s - 1) % P = P - 1
  tt : T ^ 2 ^ (s - 1) % P = 1

theorem pow_two_succ (T k : Nat) : T ^ 2 ^ (k + 1) = T ^ 2 ^ k * T ^ 2 ^ k := by rw [Nat.pow_succ, Nat.pow_mul, Nat.pow_two]

theorem ts_step {P X s R C T k : Nat} (hP : NT.Prime P) (h : TS P X s R C T) (hk : 1 ≤ k) (hks : k < s) (h1 : T ^ 2 ^ k % P = 1) (h2 : T ^ 2 ^ (k - 1) % P ≠ 1) :
    TS P X k (R * C ^ 2 ^ (s - k - 1)) (C ^ 2 ^ (s - k - 1) * C ^ 2 ^ (s - k - 1)) (T * (C ^ 2 ^ (s - k - 1) * C ^ 2 ^ (s - k - 1))) := by
  obtain ⟨hs, hR, hC, hT⟩ := h
  have e0 : (C ^ 2 ^ (s - k - 1) * C ^ 2 ^ (s - k - 1)) ^ 2 ^ (k - 1) = C ^ 2 ^ (s - 1) := by
    rw [← pow_two_succ, ← Nat.pow_mul, ← Nat.pow_add]; congr 2; omega
  refine ⟨hk, ?_, ?_, ?_⟩
  · generalize C ^ 2 ^ (s - k - 1) = D
    rw [show R * D * (R * D) = R * R * (D * D) by simp only [Nat.mul_assoc, Nat.mul_left_comm], ← Nat.mod_mul_mod, hR, Nat.mod_mul_mod, Nat.mul_assoc]
  · rw [e0, hC]
  · rw [Nat.mul_pow, e0, Nat.mul_mod, hC]
    have h3 : T ^ 2 ^ (k - 1) % P = P - 1 := by
      rcases sq_one hP (x := T ^ 2 ^ (k - 1)) (by rw [← pow_two_succ, show k - 1 + 1 = k by omega, h1]) with h | h
      · exact absurd h h2
      · exact h
    rw [h3, m1_sq hP.1]

/-- at the loop's start. -/
theorem ts_start {P X Z o s : Nat} (hs : 1 ≤ s) (he : P - 1 = 2 ^ s * o) (ho : o % 2 = 1) (hX : X ^ ((P - 1) / 2) % P = 1) (hZ : Z ^ ((P - 1) / 2) % P = P - 1) :
    TS P X s (X ^ ((o + 1) / 2)) (Z ^ o) (X ^ o) := by
  have e1 : (P - 1) / 2 = o * 2 ^ (s - 1) := by
    obtain ⟨q, rfl⟩ : ∃ q, s = q + 1 := ⟨s - 1, by omega⟩
    rw [he, show q + 1 - 1 = q by omega, Nat.pow_succ, Nat.mul_comm o, Nat.mul_right_comm]
    exact Nat.mul_div_cancel _ (by decide)
  refine ⟨hs, ?_, ?_, ?_⟩
  · congr 1
    rw [← Nat.pow_add, ← Nat.pow_succ']; congr 1; omega
  · rw [← Nat.pow_mul, ← e1, hZ]
  · rw [← Nat.pow_mul, ← e1, hX]
/-- no square: less 1. -/
theorem no_square {P Z : Nat} (hP : NT.Prime P) (hodd : P % 2 = 1) (h1 : Z ^ ((P - 1) / 2) % P ≠ 1) (h0 : Z ^ ((P - 1) / 2) % P ≠ 0) (h2 : 2 < P) : Z ^ ((P - 1) / 2) % P = P - 1 := by
  refine (euler_pm hP hodd Z fun hz => h0 ?_).resolve_left h1
  rw [Nat.pow_mod, hz, Nat.zero_pow (by omega), Nat.zero_mod]
theorem square_is {P X : Nat} (hP : NT.Prime P) (hodd : P % 2 = 1) (hX : X % P ≠ 0) : (X * X) ^ ((P - 1) / 2) % P = 1 := by
  rw [← Nat.pow_two, ← Nat.pow_mul, show 2 * ((P - 1) / 2) = P - 1 by omega, NT.fermat hP (fun h => hX (Nat.mod_eq_zero_of_dvd h)), Nat.mod_eq_of_lt hP.1]
end Go.Proofs.Ytincemkjdgbnnaa
