/- Plain: the laws of a field, modulo a prime. No program in sight. -/
import Derived.Test.YtincemkjdgbnnaaPrimes
import Derived.Test.YtincemkjdgbnnaaFieG
namespace Go.Proofs.Ytincemkjdgbnnaa
open Lm

theorem kprime {k : Int} (hk : isKind k) : NT.Prime (kP k) := by
  rcases hk with rfl | rfl | rfl | rfl | rfl | rfl
  · exact NT.prime_1
  · exact NT.prime_2
  · exact NT.prime_3
  · exact NT.prime_4
  · exact NT.prime_5
  · exact NT.prime_6

theorem eqv_of {x y : Nat} (h : x = y) : eqv x y = true := by subst h; simp [eqv]
theorem eqv_ne {x : Nat} (hx : x < B64 ^ 6) (h : x ≠ 0) : eqv x 0 = false := by rw [eqv_lt hx (pw_pos 6)]; exact decide_eq_false h
theorem pl_addc (P a b : Nat) : (a + b) % P = (b + a) % P := by rw [Nat.add_comm]
theorem pl_mulc (P a b : Nat) : a * b % P = b * a % P := by rw [Nat.mul_comm]
theorem pl_adda (P a b c : Nat) : ((a + b) % P + c) % P = (a + (b + c) % P) % P := by rw [Nat.mod_add_mod, Nat.add_mod_mod, Nat.add_assoc]
theorem pl_mula (P a b c : Nat) : a * b % P * c % P = a * (b * c % P) % P := by rw [Nat.mod_mul_mod, Nat.mul_mod_mod, Nat.mul_assoc]
theorem pl_dist (P a b c : Nat) : a * ((b + c) % P) % P = (a * b % P + a * c % P) % P := by rw [Nat.mul_mod_mod, Nat.mod_add_mod, Nat.add_mod_mod, Nat.mul_add]
theorem pl_neg {P : Nat} (hP : 0 < P) (a : Nat) : (a + ng P a % P) % P = 0 := by
  rw [Nat.add_mod_mod, ← Nat.mod_add_mod]
  unfold ng
  have := Nat.mod_lt a hP
  rw [Nat.add_sub_of_le (Nat.le_of_lt this), Nat.mod_self]
theorem pl_sub (P a b : Nat) : (a + ng P b) % P = (a + ng P b % P) % P := by rw [Nat.add_mod_mod]
theorem pl_one (P a : Nat) : a * 1 % P = a % P := by rw [Nat.mul_one]
theorem pl_red (P a : Nat) : a % P % P = a % P := Nat.mod_mod _ _
theorem pl_inv {P : Nat} (hP : NT.Prime P) (a b : Nat) (ha : a % P ≠ 0) : b * a % P * (a ^ (P - 2) % P) % P = b % P := by
  have h1 := hP.1
  have hf := NT.fermat hP (a := a) (fun h => ha (Nat.mod_eq_zero_of_dvd h))
  rw [Nat.mod_mul_mod, Nat.mul_mod_mod, Nat.mul_assoc, ← Nat.pow_succ', show (P - 2).succ = P - 1 by omega, Nat.mul_mod, hf, ← Nat.mul_mod, Nat.mul_one]
end Go.Proofs.Ytincemkjdgbnnaa
