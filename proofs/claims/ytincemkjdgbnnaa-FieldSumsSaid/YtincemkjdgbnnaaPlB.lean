/- Plain: powers modulo a prime. No program in sight. -/
import Derived.Test.YtincemkjdgbnnaaPlA
namespace Go.Proofs.Ytincemkjdgbnnaa
open Lm

theorem pl_fermat {P : Nat} (hP : NT.Prime P) (a : Nat) : a ^ P % P = a % P := by
  have h1 := hP.1
  by_cases h : P ∣ a
  · have h2 := Nat.mod_eq_zero_of_dvd h
    rw [h2, Nat.pow_mod, h2, Nat.zero_pow hP.pos, Nat.zero_mod]
  · have hf := NT.fermat hP h
    have e : a ^ P = a ^ (P - 1) * a := by rw [← Nat.pow_succ]; congr 1; omega
    rw [e, Nat.mul_mod, hf, ← Nat.mul_mod, Nat.one_mul]
theorem pl_pow (P a e f : Nat) : a ^ e % P * (a ^ f % P) % P = a ^ (e + f) % P := by rw [← Nat.mul_mod, Nat.pow_add]
theorem pl_pow0 {P : Nat} (hP : NT.Prime P) (a : Nat) : a ^ 0 % P = 1 := by rw [Nat.pow_zero]; exact Nat.mod_eq_of_lt hP.1
end Go.Proofs.Ytincemkjdgbnnaa
