/- Plain: Montgomery's product. -/
import Derived.Test.YtincemkjdgbnnaaMontC
set_option linter.unusedVariables false
set_option linter.unusedSimpArgs false
namespace Go.Proofs.Ytincemkjdgbnnaa
open Go.RowKit Lm

/-- what one round adds before the prime's multiple, and behind it. -/
def mq (P u : Nat) : Nat := u % B64 * ninv P % B64
def mT (P a b : Nat) : Nat → Nat
  | 0 => 0
  | i + 1 => (mT P a b i + dg b i * a + mq P (mT P a b i + dg b i * a) * P) / B64
/-- 1 / 2^64 modulo the prime. -/
def binv (P : Nat) : Nat := (ninv P * P + 1) / B64
def InvOk (P : Nat) : Prop := (ninv P * P + 1) % B64 = 0

theorem binv_mul {P : Nat} (h : InvOk P) : B64 * binv P = ninv P * P + 1 := by
  have := Nat.div_add_mod (ninv P * P + 1) B64
  rw [h] at this; exact this
theorem mq_lt (P u : Nat) : mq P u < B64 := Nat.mod_lt _ B64_pos
theorem mq_zero {P : Nat} (h : InvOk P) (u : Nat) : (u + mq P u * P) % B64 = 0 := by
  unfold mq
  have e : (u + u % B64 * ninv P % B64 * P) % B64 = (u * (ninv P * P + 1)) % B64 := by
    rw [Nat.mul_succ, ← Nat.mul_assoc, Nat.add_comm, Nat.add_mod, Nat.mod_mul_mod, Nat.mul_assoc (u % B64), Nat.mod_mul_mod, ← Nat.mul_assoc, ← Nat.add_mod]
  rw [e, Nat.mul_mod, h, Nat.mul_zero, Nat.zero_mod]
theorem mT_mul {P a b i : Nat} (h : InvOk P) : B64 * mT P a b (i + 1) = mT P a b i + dg b i * a + mq P (mT P a b i + dg b i * a) * P := by
  have := Nat.div_add_mod (mT P a b i + dg b i * a + mq P (mT P a b i + dg b i * a) * P) B64
  rw [mq_zero h] at this; exact this
theorem mT_lt {P a b : Nat} (h : InvOk P) (hP : 0 < P) (ha : a < P) : ∀ i, mT P a b i < 2 * P
  | 0 => by unfold mT; omega
  | i + 1 => by
    have h1 := mT_lt (b := b) h hP ha i
    have h2 := mT_mul (a := a) (b := b) (i := i) h
    have h3 : dg b i * a ≤ (B64 - 1) * (P - 1) := Nat.mul_le_mul (by have := dg_lt b i; omega) (by omega)
    have h4 : mq P (mT P a b i + dg b i * a) * P ≤ (B64 - 1) * P := Nat.mul_le_mul_right _ (by have := mq_lt P (mT P a b i + dg b i * a); omega)
    have h5 : (B64 - 1) * (P - 1) + (B64 - 1) = (B64 - 1) * P := by rw [← Nat.mul_succ]; congr 1; omega
    have h6 : (B64 - 1) * P + P = B64 * P := by rw [← Nat.succ_mul]; rfl
    have h7 : 2 ≤ B64 - 1 := by decide
    refine Nat.lt_of_mul_lt_mul_left (a := B64) ?_
    rw [h2, Nat.mul_left_comm]
    omega

theorem modmul (a b m : Nat) : (a % m * b) % m = (a * b) % m := by rw [Nat.mul_mod, Nat.mod_mod, ← Nat.mul_mod]
theorem mulmod (a b m : Nat) : (a * (b % m)) % m = (a * b) % m := by rw [Nat.mul_comm, modmul, Nat.mul_comm]

theorem binv_mod {P : Nat} (h : InvOk P) : B64 * binv P % P = 1 % P := by rw [binv_mul h, Nat.add_comm, Nat.add_mul_mod_self_right]
theorem binv_cancel {P : Nat} (h : InvOk P) (x : Nat) : B64 * x * binv P % P = x % P := by
  rw [Nat.mul_right_comm, ← modmul, binv_mod h, modmul, Nat.one_mul]
theorem binv_pow {P : Nat} (h : InvOk P) : ∀ i x : Nat, x * (B64 ^ i * binv P ^ i) % P = x % P
  | 0, x => by simp
  | i + 1, x => by
    rw [Nat.pow_succ, Nat.pow_succ, show x * (B64 ^ i * B64 * (binv P ^ i * binv P)) = B64 * (x * (B64 ^ i * binv P ^ i)) * binv P by
      simp only [Nat.mul_assoc, Nat.mul_comm, Nat.mul_left_comm], binv_cancel h, binv_pow h i x]
theorem mT_step {P a b i : Nat} (h : InvOk P) : mT P a b (i + 1) % P = (mT P a b i + dg b i * a) * binv P % P := by
  rw [← binv_cancel h (mT P a b (i + 1)), mT_mul h, Nat.add_mul _ (_ * P), Nat.mul_right_comm, Nat.add_mul_mod_self_right]
theorem mT_mod {P a b : Nat} (h : InvOk P) : ∀ i, mT P a b i % P = a * (b % B64 ^ i) * binv P ^ i % P
  | 0 => by simp [mT, Nat.mod_one]
  | i + 1 => by
    rw [mT_step h, ← modmul, Nat.add_mod, mT_mod h i, ← Nat.add_mod, modmul, mod_next, Nat.pow_succ, Nat.add_mul, Nat.mul_add, Nat.add_mul]
    rw [Nat.add_mod, Nat.add_mod (a * (b % B64 ^ i) * (binv P ^ i * binv P))]
    congr 2
    · simp only [Nat.mul_assoc]
    · rw [show a * (B64 ^ i * dg b i) * (binv P ^ i * binv P) = (a * dg b i * binv P) * (B64 ^ i * binv P ^ i) by
        simp only [Nat.mul_assoc, Nat.mul_comm, Nat.mul_left_comm], binv_pow h, Nat.mul_comm (dg b i)]
/-- 1 / R. -/
def rinv (P n : Nat) : Nat := binv P ^ n
theorem mT_end {P a b n : Nat} (h : InvOk P) (hb : b < B64 ^ n) : mT P a b n % P = a * b * rinv P n % P := by
  rw [mT_mod h, Nat.mod_eq_of_lt hb]; rfl

/-! the row -/
def Z13 : List Nat := List.replicate 13 0
theorem Z13_length : Z13.length = 13 := rfl
theorem Z13_ok : Ok B64 Z13 := Ok.replicate B64_pos _
theorem mid_take {i : Nat} {X Z : List Nat} {k : Nat} (h : i + X.length ≤ Z.length) (hk : k ≤ X.length) : ((mid i X Z).drop i).take k = X.take k := by
  unfold mid
  rw [List.drop_append_of_le_length (by rw [List.length_take]; omega), List.drop_of_length_le (by rw [List.length_take]; omega), List.nil_append, List.take_append_of_le_length hk]
theorem mid_ok {i : Nat} {X Z : List Nat} (hX : Ok B64 X) (hZ : Ok B64 Z) : Ok B64 (mid i X Z) := (hZ.take _).append (hX.append (hZ.drop _))
theorem mid_over {i : Nat} {X Y Z : List Nat} (h : i + X.length ≤ Z.length) (hl : Y.length ≤ X.length) : mid i Y (mid i X Z) = mid i (Y ++ X.drop Y.length) Z := by
  apply List.ext_getElem
  · rw [mid_length (by rw [mid_length h]; omega), mid_length h, mid_length (by simp; omega)]
  · intro j h1 h2
    rw [← nth_of_lt h1, ← nth_of_lt h2]
    have hlen : (Y ++ X.drop Y.length).length = X.length := by simp; omega
    rcases Nat.lt_or_ge j i with hj | hj
    · rw [nth_mid_lt (by rw [mid_length h]; omega) hj, nth_mid_lt h hj, nth_mid_lt (by omega) hj]
    · obtain ⟨k, rfl⟩ : ∃ k, j = i + k := ⟨j - i, by omega⟩
      rcases Nat.lt_or_ge k Y.length with hk | hk
      · rw [nth_mid (by rw [mid_length h]; omega) hk, nth_mid (by omega) (by omega), nth_append_left hk]
      · rw [nth_mid_ge (by rw [mid_length h]; omega) hk]
        rcases Nat.lt_or_ge k X.length with hk2 | hk2
        · rw [nth_mid h hk2, nth_mid (by omega) (by omega), nth_append_right hk, nth_drop]; congr 1; omega
        · rw [nth_mid_ge h hk2, nth_mid_ge (by omega) (by omega)]
theorem mid_zero {i : Nat} {X : List Nat} (h : i + 1 + X.length ≤ 13) : mid i (0 :: X) Z13 = mid (i + 1) X Z13 := by
  unfold mid Z13
  rw [List.take_replicate, List.take_replicate, List.drop_replicate, List.drop_replicate, Nat.min_eq_left (by omega), Nat.min_eq_left (by omega), List.length_cons, List.replicate_succ', show i + (X.length + 1) = i + 1 + X.length by omega]
  simp
theorem fix_zero_cons {n v : Nat} (h : v % B64 = 0) : fix B64 (n + 1) v = 0 :: fix B64 n (v / B64) := by rw [fix, h]

theorem row_nth {i n X Y : Nat} (h : i + (n + 1) ≤ 13) : nth (mid i (fix B64 n Y) (mid i (fix B64 (n + 1) X) Z13)) (i + n) = X / B64 ^ n % B64 := by
  have := nth_mid_ge (off := i) (X := fix B64 n Y) (L := mid i (fix B64 (n + 1) X) Z13) (i := n) (by rw [mid_length (by rw [fix_length]; exact h), fix_length]; exact (show i + n ≤ 13 by omega)) (by rw [fix_length]; first | done | exact Nat.le_refl _)
  rw [this, nth_mid (by rw [fix_length]; exact h) (by rw [fix_length]; omega), nth_fix (by omega)]
theorem row_set {i n X Y d : Nat} (h : i + (n + 1) ≤ 13) (hY : Y < B64 ^ n) (hd : d < B64) : (mid i (fix B64 n Y) (mid i (fix B64 (n + 1) X) Z13)).set (i + n) d = mid i (fix B64 (n + 1) (Y + B64 ^ n * d)) Z13 := by
  have hlen : (fix B64 n Y ++ (fix B64 (n + 1) X).drop (fix B64 n Y).length).length = n + 1 := by simp [fix_length]
  rw [mid_over (by rw [fix_length]; exact h) (by rw [fix_length, fix_length]; omega), mid_set (by rw [hlen]; exact h) (by rw [hlen]; omega), fix_succ hY hd,
    List.set_append_right _ _ (by rw [fix_length]; first | done | exact Nat.le_refl _), fix_length, Nat.sub_self]
  congr 2
  have : ((fix B64 (n + 1) X).drop n).length = 1 := by simp [fix_length]
  match hq : (fix B64 (n + 1) X).drop n, this with
  | [u], _ => rfl
theorem row_start (n : Nat) (h : n + 1 ≤ 13) : mid 0 (fix B64 (n + 1) 0) Z13 = Z13 := by
  have e : fix B64 (n + 1) 0 = (Z13.drop 0).take (n + 1) := by
    apply List.ext_getElem
    · simp [fix_length, Z13]; omega
    · intro j h1 h2
      rw [← nth_of_lt h1, nth_fix (by rw [fix_length] at h1; exact h1)]
      rw [← nth_of_lt h2, nth_take (by rw [fix_length] at h1; exact h1), List.drop_zero, Z13, nth_of_lt (by rw [fix_length] at h1; simp; omega), List.getElem_replicate]
      simp
  rw [e]; exact mid_self (by rw [Z13_length]; omega)
end Go.Proofs.Ytincemkjdgbnnaa
