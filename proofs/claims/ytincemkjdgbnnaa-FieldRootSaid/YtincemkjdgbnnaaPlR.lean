/- Plain: what Tonelli's and Shanks' way comes to: one number, whatever the run. No program in sight. -/
import Derived.Test.YtincemkjdgbnnaaPlP
namespace Go.Proofs.Ytincemkjdgbnnaa
open Lm

theorem least_of {p : Nat → Prop} {n : Nat} (h : p n) : ∃ m, m ≤ n ∧ p m ∧ ∀ i, i < m → ¬ p i := by
  induction n using Nat.strongRecOn with
  | _ n ih =>
    by_cases hm : ∃ m, m < n ∧ p m
    · obtain ⟨m, hlt, hp⟩ := hm
      obtain ⟨k, h1, h2, h3⟩ := ih m hlt hp
      exact ⟨k, by omega, h2, h3⟩
    · exact ⟨n, Nat.le_refl _, h, fun i hi hp => hm ⟨i, hi, hp⟩⟩
theorem odd_part : ∀ {t u o v : Nat}, 2 ^ t * o = 2 ^ u * v → o % 2 = 1 → v % 2 = 1 → t = u ∧ o = v
  | 0, 0, o, v, h, _, _ => ⟨rfl, by simpa using h⟩
  | 0, u + 1, o, v, h, h1, _ => by
    rw [Nat.pow_zero, Nat.one_mul, Nat.pow_succ, Nat.mul_right_comm] at h
    omega
  | t + 1, 0, o, v, h, _, h1 => by
    rw [Nat.pow_zero, Nat.one_mul, Nat.pow_succ, Nat.mul_right_comm] at h
    omega
  | t + 1, u + 1, o, v, h, h1, h2 => by
    rw [Nat.pow_succ, Nat.pow_succ, Nat.mul_right_comm, Nat.mul_right_comm _ 2] at h
    obtain ⟨e1, e2⟩ := odd_part (t := t) (u := u) (Nat.eq_of_mul_eq_mul_right (by decide) h) h1 h2
    exact ⟨by rw [e1], e2⟩
theorem odd_part_ex : ∀ n : Nat, n ≠ 0 → ∃ t o, n = 2 ^ t * o ∧ o % 2 = 1 := by
  intro n
  induction n using Nat.strongRecOn with
  | _ n ih =>
    intro h0
    rcases Nat.mod_two_eq_zero_or_one n with h | h
    · obtain ⟨t, o, h1, h2⟩ := ih (n / 2) (by omega) (by omega)
      refine ⟨t + 1, o, ?_, h2⟩
      rw [Nat.pow_succ, Nat.mul_right_comm, ← h1]; omega
    · exact ⟨0, n, by simp, h⟩

/-- the loop's end. -/
inductive TSto (P : Nat) : Nat → Nat → Nat → Nat → Nat → Prop
  | done {s R C T : Nat} (h : T % P = 1) : TSto P s R C T R
  | step {s R C T Rf k : Nat} (hn : T % P ≠ 1) (hk : ∀ i, i < k → T ^ 2 ^ i % P ≠ 1) (h1 : T ^ 2 ^ k % P = 1)
    (hr : TSto P k (R * C ^ 2 ^ (s - k - 1)) (C ^ 2 ^ (s - k - 1) * C ^ 2 ^ (s - k - 1)) (T * (C ^ 2 ^ (s - k - 1) * C ^ 2 ^ (s - k - 1))) Rf) : TSto P s R C T Rf
theorem TSto.at_one {P s R C T Rf : Nat} (h : TSto P s R C T Rf) (h1 : T % P = 1) : Rf = R := by
  cases h with
  | done _ => rfl
  | step hn _ _ _ => exact absurd h1 hn
theorem TSto.at_step {P s R C T Rf k : Nat} (h : TSto P s R C T Rf) (hn : T % P ≠ 1) (hk : ∀ i, i < k → T ^ 2 ^ i % P ≠ 1) (h1 : T ^ 2 ^ k % P = 1) :
    TSto P k (R * C ^ 2 ^ (s - k - 1)) (C ^ 2 ^ (s - k - 1) * C ^ 2 ^ (s - k - 1)) (T * (C ^ 2 ^ (s - k - 1) * C ^ 2 ^ (s - k - 1))) Rf := by
  cases h with
  | done h => exact absurd h hn
  | @step _ _ _ _ _ k' _ hk' h1' hr =>
    have : k = k' := by
      rcases Nat.lt_trichotomy k k' with h | h | h
      · exact absurd h1 (hk' k h)
      · exact h
      · exact absurd h1' (hk k' h)
    subst this; exact hr
theorem ts_to {P X : Nat} (hP : NT.Prime P) : ∀ {s R C T : Nat}, TS P X s R C T → ∃ Rf, TSto P s R C T Rf ∧ Rf * Rf % P = X % P := by
  intro s
  induction s using Nat.strongRecOn with
  | _ s ih =>
    intro R C T h
    by_cases h1 : T % P = 1
    · exact ⟨R, .done h1, by rw [h.rr, Nat.mul_mod, h1, Nat.mul_one, Nat.mod_mod]⟩
    · obtain ⟨k, hk1, hk2, hk3⟩ := least_of (p := fun i => T ^ 2 ^ i % P = 1) h.tt
      have hs := h.s1
      have hk0 : 1 ≤ k := by
        rcases Nat.eq_zero_or_pos k with h0 | h0
        · subst h0
          rw [Nat.pow_zero, Nat.pow_one] at hk2
          exact absurd hk2 h1
        · exact h0
      obtain ⟨Rf, h2, h3⟩ := ih k (by omega) (ts_step hP h hk0 (by omega) hk2 (hk3 (k - 1) (by omega)))
      exact ⟨Rf, .step h1 hk3 hk2 h2, h3⟩
end Go.Proofs.Ytincemkjdgbnnaa
