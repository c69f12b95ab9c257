/- Walks: math/bits.Div64, where the divisor has its highest bit. -/
import Derived.Test.YtincemkjdgbnnaaLimD
import Derived.Deep.CutBlock
import Derived.Deep.DeepCutAuto
set_option linter.unusedVariables false
set_option linter.unusedSimpArgs false
namespace Go.Proofs.Ytincemkjdgbnnaa
open Go.RowKit Lm

/-! half of a division: U and one digit d by y = a1 b + a0, U below y -/
section
variable {U d y a1 a0 q r : Nat}
theorem half_Q (hU : U < y) (hd : d < B32) : (U * B32 + d) / y < B32 := by
  rw [Nat.div_lt_iff_lt_mul (by omega)]
  have : (U + 1) * B32 ≤ y * B32 := Nat.mul_le_mul_right _ hU
  rw [Nat.succ_mul] at this
  rw [Nat.mul_comm B32 y]; omega
theorem half_prod (hy : y = a1 * B32 + a0) (hq : q * a1 + r = U) : q * y + r * B32 = U * B32 + q * a0 := by
  rw [← hq, hy, Nat.mul_add, Nat.add_mul, Nat.mul_assoc]; omega
theorem half_gt (hy : y = a1 * B32 + a0) (hU : U < y) (hd : d < B32) (hq : q * a1 + r = U) (h : B32 ≤ q ∨ B32 * r + d < q * a0) : (U * B32 + d) / y < q := by
  rcases h with h | h
  · exact Nat.lt_of_lt_of_le (half_Q hU hd) h
  · rw [Nat.div_lt_iff_lt_mul (by omega)]
    have := half_prod hy hq
    have : B32 * r = r * B32 := Nat.mul_comm _ _
    omega
theorem half_done (hy : y = a1 * B32 + a0) (hU : U < y) (hq : q * a1 + r = U) (hQ : (U * B32 + d) / y ≤ q) (h : q * a0 ≤ B32 * r + d) : q = (U * B32 + d) / y := by
  refine Nat.le_antisymm ?_ hQ
  rw [Nat.le_div_iff_mul_le (by omega)]
  have := half_prod hy hq
  have : B32 * r = r * B32 := Nat.mul_comm _ _
  omega
theorem half_start (hy : y = a1 * B32 + a0) (ha0 : a0 < B32) (ha1 : B32 ≤ 2 * a1) (ha1' : a1 < B32) (hU : U < y) (hd : d < B32) :
    (U * B32 + d) / y ≤ U / a1 ∧ U / a1 ≤ B32 + 1 ∧ U % a1 < B32 ∧ U / a1 * a1 + U % a1 = U := by
  have hb : 0 < B32 := by decide
  have h1 : 0 < a1 := by omega
  have hdm := Nat.div_add_mod U a1
  have hm := Nat.mod_lt U h1
  have hq : U / a1 * a1 + U % a1 = U := by rw [Nat.mul_comm]; exact hdm
  refine ⟨?_, ?_, by omega, hq⟩
  · have hp := half_prod hy hq
    have h2 : (U * B32 + d) / y < U / a1 + 1 := by
      rw [Nat.div_lt_iff_lt_mul (by omega), Nat.add_mul, Nat.one_mul]
      have h5 : (U % a1 + 1) * B32 ≤ a1 * B32 := Nat.mul_le_mul_right _ hm
      rw [Nat.succ_mul] at h5
      omega
    omega
  · have : U / a1 < B32 + 2 := by
      rw [Nat.div_lt_iff_lt_mul h1, Nat.add_mul]
      have : B32 * a1 = a1 * B32 := Nat.mul_comm _ _
      omega
    omega
end

theorem wrapR {U d P R : Int} (h : U * 4294967296 + d = P + R) (h0 : 0 ≤ R) (h1 : R < 18446744073709551616) :
    IntKind.u64.wrap (IntKind.u64.wrap (IntKind.u64.wrap (U * 4294967296) + d) - IntKind.u64.wrap P) = R := by
  simp only [IntKind.wrap_u64]; omega

theorem and32 (y : Nat) (h : y < B64) : bits .and .u64 (y : Int) 4294967295 = ((y % B32 : Nat) : Int) := by
  rw [B64_eq] at h
  have := bits_and_u64_nat y 4294967295 h (by omega)
  rw [show ((4294967295 : Nat) : Int) = 4294967295 from rfl] at this
  rw [this, show (4294967295 : Nat) = 2 ^ 32 - 1 from rfl, Nat.and_two_pow_sub_one_eq_mod]; rfl

theorem u64_small (n : Nat) (h : n < B64) : IntKind.u64.wrap (n : Int) = (n : Int) := by rw [B64_eq] at h; exact wrap_u _ (by omega) (by omega)

set_option maxRecDepth 100000 in
set_option maxHeartbeats 1600000 in
theorem div64_any (hi lo y : Nat) (w : World) (hy : 2 ^ 63 ≤ y) (hyB : y < B64) (hh : hi < y) (hlo : lo < B64) (h0 : 0 < hi) :
    Calls Try.prog 140 #[.int .u64 (hi : Int), .int .u64 (lo : Int), .int .u64 (y : Int)] w fun e w' =>
      e = .returned (.tuple #[.int .u64 (((hi * B64 + lo) / y : Nat) : Int), .int .u64 (((hi * B64 + lo) % y : Nat) : Int)]) ∧ ∃ k, w' = w.drewN k := by
  have hbl : blen y = 64 := blen_unique (by omega) hy hyB
  have hhB : hi < B64 := Nat.lt_trans hh hyB
  have hlz := hide (lz64_any y w hyB)
  rw [hbl] at hlz
  obtain ⟨a1, ha1⟩ : ∃ a, a = y / B32 := ⟨_, rfl⟩
  obtain ⟨a0, ha0⟩ : ∃ a, a = y % B32 := ⟨_, rfl⟩
  obtain ⟨l1, hl1⟩ : ∃ a, a = lo / B32 := ⟨_, rfl⟩
  obtain ⟨l0, hl0⟩ : ∃ a, a = lo % B32 := ⟨_, rfl⟩
  have ea1 : (y : Int) / 4294967296 = (a1 : Int) := by rw [ha1, B32_eq]; omega
  have el1 : (lo : Int) / 4294967296 = (l1 : Int) := by rw [hl1, B32_eq]; omega
  have ea0 := and32 y hyB
  have el0 := and32 lo hlo
  rw [← ha0] at ea0
  rw [← hl0] at el0
  have ez : (lo : Int) / 18446744073709551616 = 0 := by rw [B64_eq] at hlo; omega
  have eo : bits .or .u64 (hi : Int) 0 = (hi : Int) := by
    have := or_u64 hhB B64_pos
    simpa using this
  have Hy := hide (show y = a1 * B32 + a0 by rw [ha1, ha0, Nat.mul_comm]; exact (Nat.div_add_mod y B32).symm)
  have Hlo := hide (show lo = l1 * B32 + l0 by rw [hl1, hl0, Nat.mul_comm]; exact (Nat.div_add_mod lo B32).symm)
  have La0 : a0 < B32 := by rw [ha0]; exact Nat.mod_lt _ (by decide)
  have Ll0 : l0 < B32 := by rw [hl0]; exact Nat.mod_lt _ (by decide)
  have La1 : a1 < B32 := by rw [ha1, Nat.div_lt_iff_lt_mul (by decide)]; exact hyB
  have Ll1 : l1 < B32 := by rw [hl1, Nat.div_lt_iff_lt_mul (by decide)]; exact hlo
  have Ga1 : B32 ≤ 2 * a1 := by rw [ha1, B32_eq]; omega
  clear ha1 ha0 hl1 hl0
  obtain ⟨s1, s2, s3, s4⟩ := half_start Hy.out La0 Ga1 La1 hh Ll1
  obtain ⟨q0, hq0⟩ : ∃ a, a = hi / a1 := ⟨_, rfl⟩
  rw [← hq0] at s1 s2 s4
  have et : ((hi : Int)).tdiv (a1 : Int) = (q0 : Int) := by rw [hq0]; exact Int.ofNat_tdiv hi a1
  obtain ⟨m0, hm0⟩ : ∃ a, a = q0 * a1 := ⟨_, rfl⟩
  have em : (q0 : Int) * (a1 : Int) = (m0 : Int) := by rw [hm0]; simp
  obtain ⟨r0, hr0⟩ : ∃ a, a = hi % a1 := ⟨_, rfl⟩
  rw [← hr0] at s3 s4
  have er : (hi : Int) - (m0 : Int) = (r0 : Int) := by rw [hm0]; omega
  have S4 := hide s4
  obtain ⟨Q1, hQ1⟩ : ∃ Q, Q = (hi * B32 + l1) / y := ⟨_, rfl⟩
  rw [← hQ1] at s1
  have HQ1 := hide hQ1.symm
  clear hQ1
  clear hq0 hm0 hr0 s4
  have d0 : ((y : Int) == 0) = false := by rw [beq_eq_false_iff_ne]; omega
  have d1 : decide ((y : Int) ≤ (hi : Int)) = false := by simp; omega
  have d2 : ((hi : Int) == 0) = false := by rw [beq_eq_false_iff_ne]; omega
  have w1 := u64_small y hyB
  have w2 := u64_small hi hhB
  have w3 := u64_small lo hlo
  have w4 := u64_small q0 (by rw [B64_eq]; rw [B32_eq] at s2; omega)
  have w5 := u64_small m0 (by have := S4.out; omega)
  have w6 := u64_small r0 (by rw [B64_eq]; rw [B32_eq] at s3; omega)
  go_enter Try.func140, Try.ntmps140
  go_wp2_with fail
  refine hlz.out.mono ?_
  rintro e w' ⟨rfl, rfl⟩
  go_upto_block 0 with fail
  go_cut [15] (fun s wc => s = .int .u64 (Q1 : Int) ∧ wc = w')
  case first =>
    go_wp2_with fail
    go_loop [15, 16] (fun s t => ∃ q r : Nat, s = .int .u64 (q : Int) ∧ t = .int .u64 (r : Int) ∧ Hid (q * a1 + r = hi) ∧ Q1 ≤ q ∧ q ≤ B32 + 1 ∧ r < B32) (fun s _ => (intOf s).toNat)
    case atStart => exact ⟨q0, r0, rfl, rfl, S4, s1, s2, s3⟩
    case round =>
      obtain ⟨q, r, rfl, rfl, HS, hQ, hq2, hr⟩ := hrel
      obtain ⟨m, hm⟩ : ∃ m, m = q * a0 := ⟨_, rfl⟩
      obtain ⟨p, hp⟩ : ∃ p, p = B32 * r := ⟨_, rfl⟩
      obtain ⟨t, ht⟩ : ∃ t, t = p + l1 := ⟨_, rfl⟩
      have em : (q : Int) * (a0 : Int) = (m : Int) := by rw [hm]; simp
      have ep : (4294967296 : Int) * (r : Int) = (p : Int) := by rw [hp, B32_eq]; omega
      have et : (p : Int) + (l1 : Int) = (t : Int) := by omega
      have lt : t < B64 := by rw [ht, hp, B64_eq]; rw [B32_eq] at *; omega
      have xt := u64_small t lt
      have xp := u64_small p (by omega)
      have hgt : (B32 ≤ q ∨ t < m) → Q1 < q := fun h => by
        rw [← HQ1.out]
        exact half_gt Hy.out hh Ll1 HS.out (by rw [← hm, ← hp, ← ht]; exact h)
      have hdone : m ≤ t → q = Q1 := fun h => by
        rw [← HQ1.out]
        exact half_done Hy.out hh HS.out (by rw [HQ1.out]; exact hQ) (by rw [← hm, ← hp, ← ht]; exact h)
      have hmle : q ≤ B32 → m ≤ B32 * B32 := fun h => by rw [hm]; exact Nat.mul_le_mul h (by omega)
      have hmB : q < B32 → m < B64 := fun h => by
        have h1 : q * a0 ≤ (B32 - 1) * (B32 - 1) := Nat.mul_le_mul (by omega) (by omega)
        have h2 : (B32 - 1) * (B32 - 1) < B64 := by decide
        omega
      have Ht := hide ht
      have Hp := hide hp
      have Hm := hide hm
      clear hm hp ht lt
      have key : ∀ h : Q1 < q, ∃ q1 r1 : Nat, (q : Int) - 1 = (q1 : Int) ∧ (r : Int) + (a1 : Int) = (r1 : Int) ∧ IntKind.u64.wrap (q1 : Int) = (q1 : Int) ∧ IntKind.u64.wrap (r1 : Int) = (r1 : Int) ∧
          Hid (q1 * a1 + r1 = hi) ∧ Q1 ≤ q1 ∧ q1 ≤ B32 ∧ q1 < q ∧ Hid (B32 ≤ r1 → q1 = Q1) := fun h => by
        obtain ⟨q1, rfl⟩ : ∃ k, q = k + 1 := ⟨q - 1, by omega⟩
        have hs : q1 * a1 + (r + a1) = hi := by
          have := HS.out
          rw [Nat.succ_mul] at this; omega
        refine ⟨q1, r + a1, by omega, by omega, u64_small _ (by rw [B64_eq]; rw [B32_eq] at *; omega), u64_small _ (by rw [B64_eq]; rw [B32_eq] at *; omega), hs, by omega, by omega, by omega, fun hr1 => ?_⟩
        rw [← HQ1.out]
        refine half_done Hy.out hh hs (by rw [HQ1.out]; omega) ?_
        have h1 : q1 * a0 ≤ B32 * B32 := Nat.mul_le_mul (by omega) (by omega)
        have h2 : B32 * B32 ≤ B32 * (r + a1) := Nat.mul_le_mul_left _ hr1
        omega
      by_cases hc : B32 ≤ q ∨ t < m
      · obtain ⟨q1, r1, e1, e2, x1, x2, hs1, hQ1, hq1, hlt, hbr⟩ := key (hgt hc)
        clear key hgt hdone
        have c1 : q < B32 → ((q : Int) < 4294967296) := fun h => by rw [B32_eq] at h; omega
        have c2 : B32 ≤ q → ((4294967296 : Int) ≤ (q : Int)) := fun h => by rw [B32_eq] at h; omega
        have c3 : r1 < B32 → decide ((4294967296 : Int) ≤ (r1 : Int)) = false := fun h => by rw [B32_eq] at h; simp; omega
        have c4 : B32 ≤ r1 → decide ((4294967296 : Int) ≤ (r1 : Int)) = true := fun h => by rw [B32_eq] at h; simp; omega
        have fin : ∀ (h : r1 < B32), (∃ q r : Nat, (q1 : Int) = (q : Int) ∧ (r1 : Int) = (r : Int) ∧ Hid (q * a1 + r = hi) ∧ Q1 ≤ q ∧ q ≤ B32 + 1 ∧ r < B32) := fun h => ⟨q1, r1, rfl, rfl, hs1, hQ1, by omega, h⟩
        have Hfin := hide fin
        clear fin
        rcases Nat.lt_or_ge q B32 with hqb | hqb
        · have b1 : decide ((4294967296 : Int) ≤ (q : Int)) = false := by have := c1 hqb; simp; omega
          have b2 : decide (t < m) = true := by simp; omega
          have xm := u64_small m (hmB hqb)
          clear c1 c2 hmB hmle hc
          rcases Nat.lt_or_ge r1 B32 with hrb | hrb
          · have b3 := c3 hrb
            clear c3 c4
            go_wp2_with fail
            exact ⟨⟨q1, r1, rfl, rfl, hs1, hQ1, by omega, hrb⟩, by simp [intOf]; omega⟩
          · have b3 := c4 hrb
            clear c3 c4
            have hb := hbr.out hrb
            subst hb
            go_wp2_with fail
            go_meet
            exact ⟨rfl, rfl⟩
        · have b1 : decide ((4294967296 : Int) ≤ (q : Int)) = true := by have := c2 hqb; simp; omega
          clear c1 c2 hmB hmle hc
          rcases Nat.lt_or_ge r1 B32 with hrb | hrb
          · have b3 := c3 hrb
            clear c3 c4
            go_wp2_with fail
            exact ⟨⟨q1, r1, rfl, rfl, hs1, hQ1, by omega, hrb⟩, by simp [intOf]; omega⟩
          · have b3 := c4 hrb
            clear c3 c4
            have hb := hbr.out hrb
            subst hb
            go_wp2_with fail
            go_meet
            exact ⟨rfl, rfl⟩
      · have hq := hdone (by omega)
        have hqb : q < B32 := by omega
        have b1 : decide ((4294967296 : Int) ≤ (q : Int)) = false := by rw [B32_eq] at hqb; simp; omega
        have b2 : decide (t < m) = false := by simp; omega
        have xm := u64_small m (hmB hqb)
        clear key hgt hdone hmle hmB
        subst hq
        go_wp2_with fail
        go_meet
        exact ⟨rfl, rfl⟩
  obtain ⟨rfl, rfl⟩ := hcut
  obtain ⟨U1, hU⟩ : ∃ U, U = (hi * B32 + l1) % y := ⟨_, rfl⟩
  have hyp : 0 < y := by omega
  have hU1 : U1 < y := by rw [hU]; exact Nat.mod_lt _ hyp
  have hUB : U1 < B64 := Nat.lt_trans hU1 hyB
  have HU1 := hide (show hi * B32 + l1 = Q1 * y + U1 by rw [hU, ← HQ1.out, Nat.mul_comm ((hi * B32 + l1) / y)]; exact (Nat.div_add_mod _ _).symm)
  have eU : IntKind.u64.wrap (IntKind.u64.wrap (IntKind.u64.wrap ((hi : Int) * 4294967296) + (l1 : Int)) - IntKind.u64.wrap ((Q1 : Int) * (y : Int))) = (U1 : Int) := by
    refine wrapR ?_ (by omega) (by rw [B64_eq] at hUB; omega)
    have h := HU1.out
    rw [B32_eq] at h
    rw [← Int.natCast_mul]
    generalize Q1 * y = P at *
    omega
  clear hU
  obtain ⟨t1, t2, t3, t4⟩ := half_start Hy.out La0 Ga1 La1 hU1 Ll0
  obtain ⟨q2, hq2⟩ : ∃ a, a = U1 / a1 := ⟨_, rfl⟩
  rw [← hq2] at t1 t2 t4
  have et2 : ((U1 : Int)).tdiv (a1 : Int) = (q2 : Int) := by rw [hq2]; exact Int.ofNat_tdiv U1 a1
  obtain ⟨m2, hm2⟩ : ∃ a, a = q2 * a1 := ⟨_, rfl⟩
  have em2 : (q2 : Int) * (a1 : Int) = (m2 : Int) := by rw [hm2]; simp
  obtain ⟨r2, hr2⟩ : ∃ a, a = U1 % a1 := ⟨_, rfl⟩
  rw [← hr2] at t3 t4
  have er2 : (U1 : Int) - (m2 : Int) = (r2 : Int) := by rw [hm2]; omega
  have T4 := hide t4
  clear hq2 hm2 hr2 t4
  obtain ⟨Q2, hQ2⟩ : ∃ Q, Q = (U1 * B32 + l0) / y := ⟨_, rfl⟩
  rw [← hQ2] at t1
  have HQ2 := hide hQ2.symm
  clear hQ2
  have w7 := u64_small q2 (by rw [B64_eq]; rw [B32_eq] at t2; omega)
  have w8 := u64_small m2 (by have := T4.out; omega)
  have w9 := u64_small r2 (by rw [B64_eq]; rw [B32_eq] at t3; omega)
  have w10 := u64_small U1 hUB
  go_upto_block 2 with fail
  go_cut [18] (fun s wx => s = .int .u64 (Q2 : Int) ∧ wx = wc)
  case first =>
    go_wp2_with fail
    go_loop [18, 16] (fun s t => ∃ q r : Nat, s = .int .u64 (q : Int) ∧ t = .int .u64 (r : Int) ∧ Hid (q * a1 + r = U1) ∧ Q2 ≤ q ∧ q ≤ B32 + 1 ∧ r < B32) (fun s _ => (intOf s).toNat)
    case atStart => exact ⟨q2, r2, rfl, rfl, T4, t1, t2, t3⟩
    case round =>
      obtain ⟨q, r, rfl, rfl, HS, hQ, hq3, hr⟩ := hrel
      obtain ⟨m, hm⟩ : ∃ m, m = q * a0 := ⟨_, rfl⟩
      obtain ⟨p, hp⟩ : ∃ p, p = B32 * r := ⟨_, rfl⟩
      obtain ⟨t, ht⟩ : ∃ t, t = p + l0 := ⟨_, rfl⟩
      have em : (q : Int) * (a0 : Int) = (m : Int) := by rw [hm]; simp
      have ep : (4294967296 : Int) * (r : Int) = (p : Int) := by rw [hp, B32_eq]; omega
      have et : (p : Int) + (l0 : Int) = (t : Int) := by omega
      have lt : t < B64 := by rw [ht, hp, B64_eq]; rw [B32_eq] at *; omega
      have xt := u64_small t lt
      have xp := u64_small p (by omega)
      have hgt : (B32 ≤ q ∨ t < m) → Q2 < q := fun h => by
        rw [← HQ2.out]
        exact half_gt Hy.out hU1 Ll0 HS.out (by rw [← hm, ← hp, ← ht]; exact h)
      have hdone : m ≤ t → q = Q2 := fun h => by
        rw [← HQ2.out]
        exact half_done Hy.out hU1 HS.out (by rw [HQ2.out]; exact hQ) (by rw [← hm, ← hp, ← ht]; exact h)
      have hmle : q ≤ B32 → m ≤ B32 * B32 := fun h => by rw [hm]; exact Nat.mul_le_mul h (by omega)
      have hmB : q < B32 → m < B64 := fun h => by
        have h1 : q * a0 ≤ (B32 - 1) * (B32 - 1) := Nat.mul_le_mul (by omega) (by omega)
        have h2 : (B32 - 1) * (B32 - 1) < B64 := by decide
        omega
      have Ht := hide ht
      have Hp := hide hp
      have Hm := hide hm
      clear hm hp ht lt
      have key : ∀ h : Q2 < q, ∃ q1 r1 : Nat, (q : Int) - 1 = (q1 : Int) ∧ (r : Int) + (a1 : Int) = (r1 : Int) ∧ IntKind.u64.wrap (q1 : Int) = (q1 : Int) ∧ IntKind.u64.wrap (r1 : Int) = (r1 : Int) ∧
          Hid (q1 * a1 + r1 = U1) ∧ Q2 ≤ q1 ∧ q1 ≤ B32 ∧ q1 < q ∧ Hid (B32 ≤ r1 → q1 = Q2) := fun h => by
        obtain ⟨q1, rfl⟩ : ∃ k, q = k + 1 := ⟨q - 1, by omega⟩
        have hs : q1 * a1 + (r + a1) = U1 := by
          have := HS.out
          rw [Nat.succ_mul] at this; omega
        refine ⟨q1, r + a1, by omega, by omega, u64_small _ (by rw [B64_eq]; rw [B32_eq] at *; omega), u64_small _ (by rw [B64_eq]; rw [B32_eq] at *; omega), hs, by omega, by omega, by omega, fun hr1 => ?_⟩
        rw [← HQ2.out]
        refine half_done Hy.out hU1 hs (by rw [HQ2.out]; omega) ?_
        have h1 : q1 * a0 ≤ B32 * B32 := Nat.mul_le_mul (by omega) (by omega)
        have h2 : B32 * B32 ≤ B32 * (r + a1) := Nat.mul_le_mul_left _ hr1
        omega
      by_cases hc : B32 ≤ q ∨ t < m
      · obtain ⟨q1, r1, e1, e2, x1, x2, hs1, hQ2, hq1, hlt, hbr⟩ := key (hgt hc)
        clear key hgt hdone
        have c1 : q < B32 → ((q : Int) < 4294967296) := fun h => by rw [B32_eq] at h; omega
        have c2 : B32 ≤ q → ((4294967296 : Int) ≤ (q : Int)) := fun h => by rw [B32_eq] at h; omega
        have c3 : r1 < B32 → decide ((4294967296 : Int) ≤ (r1 : Int)) = false := fun h => by rw [B32_eq] at h; simp; omega
        have c4 : B32 ≤ r1 → decide ((4294967296 : Int) ≤ (r1 : Int)) = true := fun h => by rw [B32_eq] at h; simp; omega
        have fin : ∀ (h : r1 < B32), (∃ q r : Nat, (q1 : Int) = (q : Int) ∧ (r1 : Int) = (r : Int) ∧ Hid (q * a1 + r = U1) ∧ Q2 ≤ q ∧ q ≤ B32 + 1 ∧ r < B32) := fun h => ⟨q1, r1, rfl, rfl, hs1, hQ2, by omega, h⟩
        have Hfin := hide fin
        clear fin
        rcases Nat.lt_or_ge q B32 with hqb | hqb
        · have b1 : decide ((4294967296 : Int) ≤ (q : Int)) = false := by have := c1 hqb; simp; omega
          have b2 : decide (t < m) = true := by simp; omega
          have xm := u64_small m (hmB hqb)
          clear c1 c2 hmB hmle hc
          rcases Nat.lt_or_ge r1 B32 with hrb | hrb
          · have b3 := c3 hrb
            clear c3 c4
            go_wp2_with fail
            exact ⟨⟨q1, r1, rfl, rfl, hs1, hQ2, by omega, hrb⟩, by simp [intOf]; omega⟩
          · have b3 := c4 hrb
            clear c3 c4
            have hb := hbr.out hrb
            subst hb
            go_wp2_with fail
            go_meet
            exact ⟨rfl, rfl⟩
        · have b1 : decide ((4294967296 : Int) ≤ (q : Int)) = true := by have := c2 hqb; simp; omega
          clear c1 c2 hmB hmle hc
          rcases Nat.lt_or_ge r1 B32 with hrb | hrb
          · have b3 := c3 hrb
            clear c3 c4
            go_wp2_with fail
            exact ⟨⟨q1, r1, rfl, rfl, hs1, hQ2, by omega, hrb⟩, by simp [intOf]; omega⟩
          · have b3 := c4 hrb
            clear c3 c4
            have hb := hbr.out hrb
            subst hb
            go_wp2_with fail
            go_meet
            exact ⟨rfl, rfl⟩
      · have hq := hdone (by omega)
        have hqb : q < B32 := by omega
        have b1 : decide ((4294967296 : Int) ≤ (q : Int)) = false := by rw [B32_eq] at hqb; simp; omega
        have b2 : decide (t < m) = false := by simp; omega
        have xm := u64_small m (hmB hqb)
        clear key hgt hdone hmle hmB
        subst hq
        go_wp2_with fail
        go_meet
        exact ⟨rfl, rfl⟩
  obtain ⟨rfl, rfl⟩ := hcut
  obtain ⟨U2, hU2⟩ : ∃ U, U = (U1 * B32 + l0) % y := ⟨_, rfl⟩
  have hU2y : U2 < y := by rw [hU2]; exact Nat.mod_lt _ hyp
  have hU2B : U2 < B64 := Nat.lt_trans hU2y hyB
  have HU2 := hide (show U1 * B32 + l0 = Q2 * y + U2 by rw [hU2, ← HQ2.out, Nat.mul_comm ((U1 * B32 + l0) / y)]; exact (Nat.div_add_mod _ _).symm)
  have eU2 : IntKind.u64.wrap (IntKind.u64.wrap (IntKind.u64.wrap ((U1 : Int) * 4294967296) + (l0 : Int)) - IntKind.u64.wrap ((Q2 : Int) * (y : Int))) = (U2 : Int) := by
    refine wrapR ?_ (by omega) (by rw [B64_eq] at hU2B; omega)
    have h := HU2.out
    rw [B32_eq] at h
    rw [← Int.natCast_mul]
    generalize Q2 * y = P at *
    omega
  have hQ1B : Q1 < B32 := by rw [← HQ1.out]; exact half_Q hh Ll1
  have hQ2B : Q2 < B32 := by rw [← HQ2.out]; exact half_Q hU1 Ll0
  obtain ⟨F, hF⟩ : ∃ F, F = Q1 * B32 + Q2 := ⟨_, rfl⟩
  have eF : IntKind.u64.wrap (IntKind.u64.wrap ((Q1 : Int) * 4294967296) + (Q2 : Int)) = (F : Int) := by
    rw [hF]
    simp only [IntKind.wrap_u64]
    rw [B32_eq] at *
    omega
  have hall : hi * B64 + lo = F * y + U2 := by
    have h1 := HU1.out
    have h2 := HU2.out
    have h3 := Hlo.out
    have h4 : hi * B64 + lo = (hi * B32 + l1) * B32 + l0 := by rw [h3, Nat.add_mul, Nat.mul_assoc]; rw [show B32 * B32 = B64 from by decide]; omega
    rw [h4, h1, hF, Nat.add_mul, Nat.add_mul]
    have : Q1 * y * B32 = Q1 * B32 * y := by simp only [Nat.mul_assoc, Nat.mul_comm y B32]
    omega
  have hq := hide (show F = (hi * B64 + lo) / y by rw [hall, Nat.mul_comm, Nat.mul_add_div hyp, Nat.div_eq_of_lt hU2y, Nat.add_zero])
  have hr := hide (show U2 = (hi * B64 + lo) % y by rw [hall, Nat.mul_comm, Nat.mul_add_mod, Nat.mod_eq_of_lt hU2y])
  clear hU2 hF hall
  go_wp2_with fail
  go_ret2
  exact ⟨by rw [← hq.out, ← hr.out]; rfl, 0, rfl⟩

set_option maxRecDepth 100000 in
set_option maxHeartbeats 800000 in
theorem div64_zero (lo y : Nat) (w : World) (hy : 0 < y) (hyB : y < B64) (hlo : lo < B64) :
    Calls Try.prog 140 #[.int .u64 0, .int .u64 (lo : Int), .int .u64 (y : Int)] w fun e w' =>
      e = .returned (.tuple #[.int .u64 ((lo / y : Nat) : Int), .int .u64 ((lo % y : Nat) : Int)]) ∧ ∃ k, w' = w.drewN k := by
  obtain ⟨q, hq⟩ : ∃ q, q = lo / y := ⟨_, rfl⟩
  obtain ⟨r, hr⟩ : ∃ r, r = lo % y := ⟨_, rfl⟩
  have d0 : ((y : Int) == 0) = false := by rw [beq_eq_false_iff_ne]; omega
  have d1 : decide ((y : Int) ≤ 0) = false := by simp; omega
  have e1 : ((lo : Int)).tdiv (y : Int) = (q : Int) := by rw [hq]; exact Int.ofNat_tdiv lo y
  have e2 : ((lo : Int)).tmod (y : Int) = (r : Int) := by rw [hr]; exact Int.ofNat_tmod lo y
  have w1 := u64_small q (by rw [hq]; exact Nat.lt_of_le_of_lt (Nat.div_le_self _ _) hlo)
  have w2 := u64_small r (by rw [hr]; exact Nat.lt_of_le_of_lt (Nat.mod_le _ _) hlo)
  rw [← hq, ← hr]
  clear hq hr
  go_enter Try.func140, Try.ntmps140
  go_wp2_with fail
  go_region
  go_wp2_with fail
  go_ret2
  exact ⟨rfl, 1, rfl⟩

theorem div64_all (hi lo y : Nat) (w : World) (hy : 2 ^ 63 ≤ y) (hyB : y < B64) (hh : hi < y) (hlo : lo < B64) :
    Calls Try.prog 140 #[.int .u64 (hi : Int), .int .u64 (lo : Int), .int .u64 (y : Int)] w fun e w' =>
      e = .returned (.tuple #[.int .u64 (((hi * B64 + lo) / y : Nat) : Int), .int .u64 (((hi * B64 + lo) % y : Nat) : Int)]) ∧ ∃ k, w' = w.drewN k := by
  rcases Nat.eq_zero_or_pos hi with h0 | h0
  · subst h0
    rw [Nat.zero_mul, Nat.zero_add]
    exact div64_zero lo y w (by omega) hyB hlo
  · exact div64_any hi lo y w hy hyB hh hlo h0
end Go.Proofs.Ytincemkjdgbnnaa
