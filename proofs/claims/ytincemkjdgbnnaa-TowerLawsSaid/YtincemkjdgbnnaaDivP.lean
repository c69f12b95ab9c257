/- Walks: math/bits.Div64, where the divisor has its highest bit. Walks: package limb, one step of a long division. Words: append onto a row of the call's own. Walks: package limb, the long division. Walks: package limb, the long division, where the quotient is not 0 by its length. -/
import Derived.Test.YtincemkjdgbnnaaLimP
import Derived.Deep.CutBlock
import Derived.Deep.DeepCutAuto
import Derived.Maps.AppendAt
set_option linter.unusedVariables false
set_option linter.unusedSimpArgs false
namespace Go.Proofs.Ytincemkjdgbnnaa
open Go.RowKit Lm

/-! half of a division: U and one digit d by y = a1 b + a0, U below y -/
section
variable {U d y a1 a0 q r : Nat}
theorem half_Q (hU : U < y) (hd : d < B32) : (U * B32 + d) / y < B32 := by
  rw [Nat.div_lt_iff_lt_mul (by omega)]
  have : (U + 1) * B32 ≤ y * B32 := Nat.mul_le_mul_right _ hU
  rw [Nat.succ_mul] at this
  rw [Nat.mul_comm B32 y]; omega
theorem half_prod (hy : y = a1 * B32 + a0) (hq : q * a1 + r = U) : q * y + r * B32 = U * B32 + q * a0 := by
  rw [← hq, hy, Nat.mul_add, Nat.add_mul, Nat.mul_assoc]; omega
theorem half_gt (hy : y = a1 * B32 + a0) (hU : U < y) (hd : d < B32) (hq : q * a1 + r = U) (h : B32 ≤ q ∨ B32 * r + d < q * a0) : (U * B32 + d) / y < q := by
  rcases h with h | h
  · exact Nat.lt_of_lt_of_le (half_Q hU hd) h
  · rw [Nat.div_lt_iff_lt_mul (by omega)]
    have := half_prod hy hq
    have : B32 * r = r * B32 := Nat.mul_comm _ _
    omega
theorem half_done (hy : y = a1 * B32 + a0) (hU : U < y) (hq : q * a1 + r = U) (hQ : (U * B32 + d) / y ≤ q) (h : q * a0 ≤ B32 * r + d) : q = (U * B32 + d) / y := by
  refine Nat.le_antisymm ?_ hQ
  rw [Nat.le_div_iff_mul_le (by omega)]
  have := half_prod hy hq
  have : B32 * r = r * B32 := Nat.mul_comm _ _
  omega
theorem half_start (hy : y = a1 * B32 + a0) (ha0 : a0 < B32) (ha1 : B32 ≤ 2 * a1) (ha1' : a1 < B32) (hU : U < y) (hd : d < B32) :
    (U * B32 + d) / y ≤ U / a1 ∧ U / a1 ≤ B32 + 1 ∧ U % a1 < B32 ∧ U / a1 * a1 + U % a1 = U := by
  have hb : 0 < B32 := by decide
  have h1 : 0 < a1 := by omega
  have hdm := Nat.div_add_mod U a1
  have hm := Nat.mod_lt U h1
  have hq : U / a1 * a1 + U % a1 = U := by rw [Nat.mul_comm]; exact hdm
  refine ⟨?_, ?_, by omega, hq⟩
  · have hp := half_prod hy hq
    have h2 : (U * B32 + d) / y < U / a1 + 1 := by
      rw [Nat.div_lt_iff_lt_mul (by omega), Nat.add_mul, Nat.one_mul]
      have h5 : (U % a1 + 1) * B32 ≤ a1 * B32 := Nat.mul_le_mul_right _ hm
      rw [Nat.succ_mul] at h5
      omega
    omega
  · have : U / a1 < B32 + 2 := by
      rw [Nat.div_lt_iff_lt_mul h1, Nat.add_mul]
      have : B32 * a1 = a1 * B32 := Nat.mul_comm _ _
      omega
    omega
end

theorem wrapR {U d P R : Int} (h : U * 4294967296 + d = P + R) (h0 : 0 ≤ R) (h1 : R < 18446744073709551616) :
    IntKind.u64.wrap (IntKind.u64.wrap (IntKind.u64.wrap (U * 4294967296) + d) - IntKind.u64.wrap P) = R := by
  simp only [IntKind.wrap_u64]; omega

theorem and32 (y : Nat) (h : y < B64) : bits .and .u64 (y : Int) 4294967295 = ((y % B32 : Nat) : Int) := by
  rw [B64_eq] at h
  have := bits_and_u64_nat y 4294967295 h (by omega)
  rw [show ((4294967295 : Nat) : Int) = 4294967295 from rfl] at this
  rw [this, show (4294967295 : Nat) = 2 ^ 32 - 1 from rfl, Nat.and_two_pow_sub_one_eq_mod]; rfl

theorem u64_small (n : Nat) (h : n < B64) : IntKind.u64.wrap (n : Int) = (n : Int) := by rw [B64_eq] at h; exact wrap_u _ (by omega) (by omega)

set_option maxRecDepth 100000 in
set_option maxHeartbeats 1600000 in
theorem div64_any (hi lo y : Nat) (w : World) (hy : 2 ^ 63 ≤ y) (hyB : y < B64) (hh : hi < y) (hlo : lo < B64) (h0 : 0 < hi) :
    Calls Try.prog 140 #[.int .u64 (hi : Int), .int .u64 (lo : Int), .int .u64 (y : Int)] w fun e w' =>
      e = .returned (.tuple #[.int .u64 (((hi * B64 + lo) / y : Nat) : Int), .int .u64 (((hi * B64 + lo) % y : Nat) : Int)]) ∧ ∃ k, w' = w.drewN k := by
  have hbl : blen y = 64 := blen_unique (by omega) hy hyB
  have hhB : hi < B64 := Nat.lt_trans hh hyB
  have hlz := hide (lz64_any y w hyB)
  rw [hbl] at hlz
  obtain ⟨a1, ha1⟩ : ∃ a, a = y / B32 := ⟨_, rfl⟩
  obtain ⟨a0, ha0⟩ : ∃ a, a = y % B32 := ⟨_, rfl⟩
  obtain ⟨l1, hl1⟩ : ∃ a, a = lo / B32 := ⟨_, rfl⟩
  obtain ⟨l0, hl0⟩ : ∃ a, a = lo % B32 := ⟨_, rfl⟩
  have ea1 : (y : Int) / 4294967296 = (a1 : Int) := by rw [ha1, B32_eq]; omega
  have el1 : (lo : Int) / 4294967296 = (l1 : Int) := by rw [hl1, B32_eq]; omega
  have ea0 := and32 y hyB
  have el0 := and32 lo hlo
  rw [← ha0] at ea0
  rw [← hl0] at el0
  have ez : (lo : Int) / 18446744073709551616 = 0 := by rw [B64_eq] at hlo; omega
  have eo : bits .or .u64 (hi : Int) 0 = (hi : Int) := by
    have := or_u64 hhB B64_pos
    simpa using this
  have Hy := hide (show y = a1 * B32 + a0 by rw [ha1, ha0, Nat.mul_comm]; exact (Nat.div_add_mod y B32).symm)
  have Hlo := hide (show lo = l1 * B32 + l0 by rw [hl1, hl0, Nat.mul_comm]; exact (Nat.div_add_mod lo B32).symm)
  have La0 : a0 < B32 := by rw [ha0]; exact Nat.mod_lt _ (by decide)
  have Ll0 : l0 < B32 := by rw [hl0]; exact Nat.mod_lt _ (by decide)
  have La1 : a1 < B32 := by rw [ha1, Nat.div_lt_iff_lt_mul (by decide)]; exact hyB
  have Ll1 : l1 < B32 := by rw [hl1, Nat.div_lt_iff_lt_mul (by decide)]; exact hlo
  have Ga1 : B32 ≤ 2 * a1 := by rw [ha1, B32_eq]; omega
  clear ha1 ha0 hl1 hl0
  obtain ⟨s1, s2, s3, s4⟩ := half_start Hy.out La0 Ga1 La1 hh Ll1
  obtain ⟨q0, hq0⟩ : ∃ a, a = hi / a1 := ⟨_, rfl⟩
  rw [← hq0] at s1 s2 s4
  have et : ((hi : Int)).tdiv (a1 : Int) = (q0 : Int) := by rw [hq0]; exact Int.ofNat_tdiv hi a1
  obtain ⟨m0, hm0⟩ : ∃ a, a = q0 * a1 := ⟨_, rfl⟩
  have em : (q0 : Int) * (a1 : Int) = (m0 : Int) := by rw [hm0]; simp
  obtain ⟨r0, hr0⟩ : ∃ a, a = hi % a1 := ⟨_, rfl⟩
  rw [← hr0] at s3 s4
  have er : (hi : Int) - (m0 : Int) = (r0 : Int) := by rw [hm0]; omega
  have S4 := hide s4
  obtain ⟨Q1, hQ1⟩ : ∃ Q, Q = (hi * B32 + l1) / y := ⟨_, rfl⟩
  rw [← hQ1] at s1
  have HQ1 := hide hQ1.symm
  clear hQ1
  clear hq0 hm0 hr0 s4
  have d0 : ((y : Int) == 0) = false := by rw [beq_eq_false_iff_ne]; omega
  have d1 : decide ((y : Int) ≤ (hi : Int)) = false := by simp; omega
  have d2 : ((hi : Int) == 0) = false := by rw [beq_eq_false_iff_ne]; omega
  have w1 := u64_small y hyB
  have w2 := u64_small hi hhB
  have w3 := u64_small lo hlo
  have w4 := u64_small q0 (by rw [B64_eq]; rw [B32_eq] at s2; omega)
  have w5 := u64_small m0 (by have := S4.out; omega)
  have w6 := u64_small r0 (by rw [B64_eq]; rw [B32_eq] at s3; omega)
  go_enter Try.func140, Try.ntmps140
  go_wp2_with fail
  refine hlz.out.mono ?_
  rintro e w' ⟨rfl, rfl⟩
  go_upto_block 0 with fail
  go_cut [15] (fun s wc => s = .int .u64 (Q1 : Int) ∧ wc = w')
  case first =>
    go_wp2_with fail
    go_loop [15, 16] (fun s t => ∃ q r : Nat, s = .int .u64 (q : Int) ∧ t = .int .u64 (r : Int) ∧ Hid (q * a1 + r = hi) ∧ Q1 ≤ q ∧ q ≤ B32 + 1 ∧ r < B32) (fun s _ => (intOf s).toNat)
    case atStart => exact ⟨q0, r0, rfl, rfl, S4, s1, s2, s3⟩
    case round =>
      obtain ⟨q, r, rfl, rfl, HS, hQ, hq2, hr⟩ := hrel
      obtain ⟨m, hm⟩ : ∃ m, m = q * a0 := ⟨_, rfl⟩
      obtain ⟨p, hp⟩ : ∃ p, p = B32 * r := ⟨_, rfl⟩
      obtain ⟨t, ht⟩ : ∃ t, t = p + l1 := ⟨_, rfl⟩
      have em : (q : Int) * (a0 : Int) = (m : Int) := by rw [hm]; simp
      have ep : (4294967296 : Int) * (r : Int) = (p : Int) := by rw [hp, B32_eq]; omega
      have et : (p : Int) + (l1 : Int) = (t : Int) := by omega
      have lt : t < B64 := by rw [ht, hp, B64_eq]; rw [B32_eq] at *; omega
      have xt := u64_small t lt
      have xp := u64_small p (by omega)
      have hgt : (B32 ≤ q ∨ t < m) → Q1 < q := fun h => by
        rw [← HQ1.out]
        exact half_gt Hy.out hh Ll1 HS.out (by rw [← hm, ← hp, ← ht]; exact h)
      have hdone : m ≤ t → q = Q1 := fun h => by
        rw [← HQ1.out]
        exact half_done Hy.out hh HS.out (by rw [HQ1.out]; exact hQ) (by rw [← hm, ← hp, ← ht]; exact h)
      have hmle : q ≤ B32 → m ≤ B32 * B32 := fun h => by rw [hm]; exact Nat.mul_le_mul h (by omega)
      have hmB : q < B32 → m < B64 := fun h => by
        have h1 : q * a0 ≤ (B32 - 1) * (B32 - 1) := Nat.mul_le_mul (by omega) (by omega)
        have h2 : (B32 - 1) * (B32 - 1) < B64 := by decide
        omega
      have Ht := hide ht
      have Hp := hide hp
      have Hm := hide hm
      clear hm hp ht lt
      have key : ∀ h : Q1 < q, ∃ q1 r1 : Nat, (q : Int) - 1 = (q1 : Int) ∧ (r : Int) + (a1 : Int) = (r1 : Int) ∧ IntKind.u64.wrap (q1 : Int) = (q1 : Int) ∧ IntKind.u64.wrap (r1 : Int) = (r1 : Int) ∧
          Hid (q1 * a1 + r1 = hi) ∧ Q1 ≤ q1 ∧ q1 ≤ B32 ∧ q1 < q ∧ Hid (B32 ≤ r1 → q1 = Q1) := fun h => by
        obtain ⟨q1, rfl⟩ : ∃ k, q = k + 1 := ⟨q - 1, by omega⟩
        have hs : q1 * a1 + (r + a1) = hi := by
          have := HS.out
          rw [Nat.succ_mul] at this; omega
        refine ⟨q1, r + a1, by omega, by omega, u64_small _ (by rw [B64_eq]; rw [B32_eq] at *; omega), u64_small _ (by rw [B64_eq]; rw [B32_eq] at *; omega), hs, by omega, by omega, by omega, fun hr1 => ?_⟩
        rw [← HQ1.out]
        refine half_done Hy.out hh hs (by rw [HQ1.out]; omega) ?_
        have h1 : q1 * a0 ≤ B32 * B32 := Nat.mul_le_mul (by omega) (by omega)
        have h2 : B32 * B32 ≤ B32 * (r + a1) := Nat.mul_le_mul_left _ hr1
        omega
      by_cases hc : B32 ≤ q ∨ t < m
      · obtain ⟨q1, r1, e1, e2, x1, x2, hs1, hQ1, hq1, hlt, hbr⟩ := key (hgt hc)
        clear key hgt hdone
        have c1 : q < B32 → ((q : Int) < 4294967296) := fun h => by rw [B32_eq] at h; omega
        have c2 : B32 ≤ q → ((4294967296 : Int) ≤ (q : Int)) := fun h => by rw [B32_eq] at h; omega
        have c3 : r1 < B32 → decide ((4294967296 : Int) ≤ (r1 : Int)) = false := fun h => by rw [B32_eq] at h; simp; omega
        have c4 : B32 ≤ r1 → decide ((4294967296 : Int) ≤ (r1 : Int)) = true := fun h => by rw [B32_eq] at h; simp; omega
        have fin : ∀ (h : r1 < B32), (∃ q r : Nat, (q1 : Int) = (q : Int) ∧ (r1 : Int) = (r : Int) ∧ Hid (q * a1 + r = hi) ∧ Q1 ≤ q ∧ q ≤ B32 + 1 ∧ r < B32) := fun h => ⟨q1, r1, rfl, rfl, hs1, hQ1, by omega, h⟩
        have Hfin := hide fin
        clear fin
        rcases Nat.lt_or_ge q B32 with hqb | hqb
        · have b1 : decide ((4294967296 : Int) ≤ (q : Int)) = false := by have := c1 hqb; simp; omega
          have b2 : decide (t < m) = true := by simp; omega
          have xm := u64_small m (hmB hqb)
          clear c1 c2 hmB hmle hc
          rcases Nat.lt_or_ge r1 B32 with hrb | hrb
          · have b3 := c3 hrb
            clear c3 c4
            go_wp2_with fail
            exact ⟨⟨q1, r1, rfl, rfl, hs1, hQ1, by omega, hrb⟩, by simp [intOf]; omega⟩
          · have b3 := c4 hrb
            clear c3 c4
            have hb := hbr.out hrb
            subst hb
            go_wp2_with fail
            go_meet
            exact ⟨rfl, rfl⟩
        · have b1 : decide ((4294967296 : Int) ≤ (q : Int)) = true := by have := c2 hqb; simp; omega
          clear c1 c2 hmB hmle hc
          rcases Nat.lt_or_ge r1 B32 with hrb | hrb
          · have b3 := c3 hrb
            clear c3 c4
            go_wp2_with fail
            exact ⟨⟨q1, r1, rfl, rfl, hs1, hQ1, by omega, hrb⟩, by simp [intOf]; omega⟩
          · have b3 := c4 hrb
            clear c3 c4
            have hb := hbr.out hrb
            subst hb
            go_wp2_with fail
            go_meet
            exact ⟨rfl, rfl⟩
      · have hq := hdone (by omega)
        have hqb : q < B32 := by omega
        have b1 : decide ((4294967296 : Int) ≤ (q : Int)) = false := by rw [B32_eq] at hqb; simp; omega
        have b2 : decide (t < m) = false := by simp; omega
        have xm := u64_small m (hmB hqb)
        clear key hgt hdone hmle hmB
        subst hq
        go_wp2_with fail
        go_meet
        exact ⟨rfl, rfl⟩
  obtain ⟨rfl, rfl⟩ := hcut
  obtain ⟨U1, hU⟩ : ∃ U, U = (hi * B32 + l1) % y := ⟨_, rfl⟩
  have hyp : 0 < y := by omega
  have hU1 : U1 < y := by rw [hU]; exact Nat.mod_lt _ hyp
  have hUB : U1 < B64 := Nat.lt_trans hU1 hyB
  have HU1 := hide (show hi * B32 + l1 = Q1 * y + U1 by rw [hU, ← HQ1.out, Nat.mul_comm ((hi * B32 + l1) / y)]; exact (Nat.div_add_mod _ _).symm)
  have eU : IntKind.u64.wrap (IntKind.u64.wrap (IntKind.u64.wrap ((hi : Int) * 4294967296) + (l1 : Int)) - IntKind.u64.wrap ((Q1 : Int) * (y : Int))) = (U1 : Int) := by
    refine wrapR ?_ (by omega) (by rw [B64_eq] at hUB; omega)
    have h := HU1.out
    rw [B32_eq] at h
    rw [← Int.natCast_mul]
    generalize Q1 * y = P at *
    omega
  clear hU
  obtain ⟨t1, t2, t3, t4⟩ := half_start Hy.out La0 Ga1 La1 hU1 Ll0
  obtain ⟨q2, hq2⟩ : ∃ a, a = U1 / a1 := ⟨_, rfl⟩
  rw [← hq2] at t1 t2 t4
  have et2 : ((U1 : Int)).tdiv (a1 : Int) = (q2 : Int) := by rw [hq2]; exact Int.ofNat_tdiv U1 a1
  obtain ⟨m2, hm2⟩ : ∃ a, a = q2 * a1 := ⟨_, rfl⟩
  have em2 : (q2 : Int) * (a1 : Int) = (m2 : Int) := by rw [hm2]; simp
  obtain ⟨r2, hr2⟩ : ∃ a, a = U1 % a1 := ⟨_, rfl⟩
  rw [← hr2] at t3 t4
  have er2 : (U1 : Int) - (m2 : Int) = (r2 : Int) := by rw [hm2]; omega
  have T4 := hide t4
  clear hq2 hm2 hr2 t4
  obtain ⟨Q2, hQ2⟩ : ∃ Q, Q = (U1 * B32 + l0) / y := ⟨_, rfl⟩
  rw [← hQ2] at t1
  have HQ2 := hide hQ2.symm
  clear hQ2
  have w7 := u64_small q2 (by rw [B64_eq]; rw [B32_eq] at t2; omega)
  have w8 := u64_small m2 (by have := T4.out; omega)
  have w9 := u64_small r2 (by rw [B64_eq]; rw [B32_eq] at t3; omega)
  have w10 := u64_small U1 hUB
  go_upto_block 2 with fail
  go_cut [18] (fun s wx => s = .int .u64 (Q2 : Int) ∧ wx = wc)
  case first =>
    go_wp2_with fail
    go_loop [18, 16] (fun s t => ∃ q r : Nat, s = .int .u64 (q : Int) ∧ t = .int .u64 (r : Int) ∧ Hid (q * a1 + r = U1) ∧ Q2 ≤ q ∧ q ≤ B32 + 1 ∧ r < B32) (fun s _ => (intOf s).toNat)
    case atStart => exact ⟨q2, r2, rfl, rfl, T4, t1, t2, t3⟩
    case round =>
      obtain ⟨q, r, rfl, rfl, HS, hQ, hq3, hr⟩ := hrel
      obtain ⟨m, hm⟩ : ∃ m, m = q * a0 := ⟨_, rfl⟩
      obtain ⟨p, hp⟩ : ∃ p, p = B32 * r := ⟨_, rfl⟩
      obtain ⟨t, ht⟩ : ∃ t, t = p + l0 := ⟨_, rfl⟩
      have em : (q : Int) * (a0 : Int) = (m : Int) := by rw [hm]; simp
      have ep : (4294967296 : Int) * (r : Int) = (p : Int) := by rw [hp, B32_eq]; omega
      have et : (p : Int) + (l0 : Int) = (t : Int) := by omega
      have lt : t < B64 := by rw [ht, hp, B64_eq]; rw [B32_eq] at *; omega
      have xt := u64_small t lt
      have xp := u64_small p (by omega)
      have hgt : (B32 ≤ q ∨ t < m) → Q2 < q := fun h => by
        rw [← HQ2.out]
        exact half_gt Hy.out hU1 Ll0 HS.out (by rw [← hm, ← hp, ← ht]; exact h)
      have hdone : m ≤ t → q = Q2 := fun h => by
        rw [← HQ2.out]
        exact half_done Hy.out hU1 HS.out (by rw [HQ2.out]; exact hQ) (by rw [← hm, ← hp, ← ht]; exact h)
      have hmle : q ≤ B32 → m ≤ B32 * B32 := fun h => by rw [hm]; exact Nat.mul_le_mul h (by omega)
      have hmB : q < B32 → m < B64 := fun h => by
        have h1 : q * a0 ≤ (B32 - 1) * (B32 - 1) := Nat.mul_le_mul (by omega) (by omega)
        have h2 : (B32 - 1) * (B32 - 1) < B64 := by decide
        omega
      have Ht := hide ht
      have Hp := hide hp
      have Hm := hide hm
      clear hm hp ht lt
      have key : ∀ h : Q2 < q, ∃ q1 r1 : Nat, (q : Int) - 1 = (q1 : Int) ∧ (r : Int) + (a1 : Int) = (r1 : Int) ∧ IntKind.u64.wrap (q1 : Int) = (q1 : Int) ∧ IntKind.u64.wrap (r1 : Int) = (r1 : Int) ∧
          Hid (q1 * a1 + r1 = U1) ∧ Q2 ≤ q1 ∧ q1 ≤ B32 ∧ q1 < q ∧ Hid (B32 ≤ r1 → q1 = Q2) := fun h => by
        obtain ⟨q1, rfl⟩ : ∃ k, q = k + 1 := ⟨q - 1, by omega⟩
        have hs : q1 * a1 + (r + a1) = U1 := by
          have := HS.out
          rw [Nat.succ_mul] at this; omega
        refine ⟨q1, r + a1, by omega, by omega, u64_small _ (by rw [B64_eq]; rw [B32_eq] at *; omega), u64_small _ (by rw [B64_eq]; rw [B32_eq] at *; omega), hs, by omega, by omega, by omega, fun hr1 => ?_⟩
        rw [← HQ2.out]
        refine half_done Hy.out hU1 hs (by rw [HQ2.out]; omega) ?_
        have h1 : q1 * a0 ≤ B32 * B32 := Nat.mul_le_mul (by omega) (by omega)
        have h2 : B32 * B32 ≤ B32 * (r + a1) := Nat.mul_le_mul_left _ hr1
        omega
      by_cases hc : B32 ≤ q ∨ t < m
      · obtain ⟨q1, r1, e1, e2, x1, x2, hs1, hQ2, hq1, hlt, hbr⟩ := key (hgt hc)
        clear key hgt hdone
        have c1 : q < B32 → ((q : Int) < 4294967296) := fun h => by rw [B32_eq] at h; omega
        have c2 : B32 ≤ q → ((4294967296 : Int) ≤ (q : Int)) := fun h => by rw [B32_eq] at h; omega
        have c3 : r1 < B32 → decide ((4294967296 : Int) ≤ (r1 : Int)) = false := fun h => by rw [B32_eq] at h; simp; omega
        have c4 : B32 ≤ r1 → decide ((4294967296 : Int) ≤ (r1 : Int)) = true := fun h => by rw [B32_eq] at h; simp; omega
        have fin : ∀ (h : r1 < B32), (∃ q r : Nat, (q1 : Int) = (q : Int) ∧ (r1 : Int) = (r : Int) ∧ Hid (q * a1 + r = U1) ∧ Q2 ≤ q ∧ q ≤ B32 + 1 ∧ r < B32) := fun h => ⟨q1, r1, rfl, rfl, hs1, hQ2, by omega, h⟩
        have Hfin := hide fin
        clear fin
        rcases Nat.lt_or_ge q B32 with hqb | hqb
        · have b1 : decide ((4294967296 : Int) ≤ (q : Int)) = false := by have := c1 hqb; simp; omega
          have b2 : decide (t < m) = true := by simp; omega
          have xm := u64_small m (hmB hqb)
          clear c1 c2 hmB hmle hc
          rcases Nat.lt_or_ge r1 B32 with hrb | hrb
          · have b3 := c3 hrb
            clear c3 c4
            go_wp2_with fail
            exact ⟨⟨q1, r1, rfl, rfl, hs1, hQ2, by omega, hrb⟩, by simp [intOf]; omega⟩
          · have b3 := c4 hrb
            clear c3 c4
            have hb := hbr.out hrb
            subst hb
            go_wp2_with fail
            go_meet
            exact ⟨rfl, rfl⟩
        · have b1 : decide ((4294967296 : Int) ≤ (q : Int)) = true := by have := c2 hqb; simp; omega
          clear c1 c2 hmB hmle hc
          rcases Nat.lt_or_ge r1 B32 with hrb | hrb
          · have b3 := c3 hrb
            clear c3 c4
            go_wp2_with fail
            exact ⟨⟨q1, r1, rfl, rfl, hs1, hQ2, by omega, hrb⟩, by simp [intOf]; omega⟩
          · have b3 := c4 hrb
            clear c3 c4
            have hb := hbr.out hrb
            subst hb
            go_wp2_with fail
            go_meet
            exact ⟨rfl, rfl⟩
      · have hq := hdone (by omega)
        have hqb : q < B32 := by omega
        have b1 : decide ((4294967296 : Int) ≤ (q : Int)) = false := by rw [B32_eq] at hqb; simp; omega
        have b2 : decide (t < m) = false := by simp; omega
        have xm := u64_small m (hmB hqb)
        clear key hgt hdone hmle hmB
        subst hq
        go_wp2_with fail
        go_meet
        exact ⟨rfl, rfl⟩
  obtain ⟨rfl, rfl⟩ := hcut
  obtain ⟨U2, hU2⟩ : ∃ U, U = (U1 * B32 + l0) % y := ⟨_, rfl⟩
  have hU2y : U2 < y := by rw [hU2]; exact Nat.mod_lt _ hyp
  have hU2B : U2 < B64 := Nat.lt_trans hU2y hyB
  have HU2 := hide (show U1 * B32 + l0 = Q2 * y + U2 by rw [hU2, ← HQ2.out, Nat.mul_comm ((U1 * B32 + l0) / y)]; exact (Nat.div_add_mod _ _).symm)
  have eU2 : IntKind.u64.wrap (IntKind.u64.wrap (IntKind.u64.wrap ((U1 : Int) * 4294967296) + (l0 : Int)) - IntKind.u64.wrap ((Q2 : Int) * (y : Int))) = (U2 : Int) := by
    refine wrapR ?_ (by omega) (by rw [B64_eq] at hU2B; omega)
    have h := HU2.out
    rw [B32_eq] at h
    rw [← Int.natCast_mul]
    generalize Q2 * y = P at *
    omega
  have hQ1B : Q1 < B32 := by rw [← HQ1.out]; exact half_Q hh Ll1
  have hQ2B : Q2 < B32 := by rw [← HQ2.out]; exact half_Q hU1 Ll0
  obtain ⟨F, hF⟩ : ∃ F, F = Q1 * B32 + Q2 := ⟨_, rfl⟩
  have eF : IntKind.u64.wrap (IntKind.u64.wrap ((Q1 : Int) * 4294967296) + (Q2 : Int)) = (F : Int) := by
    rw [hF]
    simp only [IntKind.wrap_u64]
    rw [B32_eq] at *
    omega
  have hall : hi * B64 + lo = F * y + U2 := by
    have h1 := HU1.out
    have h2 := HU2.out
    have h3 := Hlo.out
    have h4 : hi * B64 + lo = (hi * B32 + l1) * B32 + l0 := by rw [h3, Nat.add_mul, Nat.mul_assoc]; rw [show B32 * B32 = B64 from by decide]; omega
    rw [h4, h1, hF, Nat.add_mul, Nat.add_mul]
    have : Q1 * y * B32 = Q1 * B32 * y := by simp only [Nat.mul_assoc, Nat.mul_comm y B32]
    omega
  have hq := hide (show F = (hi * B64 + lo) / y by rw [hall, Nat.mul_comm, Nat.mul_add_div hyp, Nat.div_eq_of_lt hU2y, Nat.add_zero])
  have hr := hide (show U2 = (hi * B64 + lo) % y by rw [hall, Nat.mul_comm, Nat.mul_add_mod, Nat.mod_eq_of_lt hU2y])
  clear hU2 hF hall
  go_wp2_with fail
  go_ret2
  exact ⟨by rw [← hq.out, ← hr.out]; rfl, 0, rfl⟩

set_option maxRecDepth 100000 in
set_option maxHeartbeats 800000 in
theorem div64_zero (lo y : Nat) (w : World) (hy : 0 < y) (hyB : y < B64) (hlo : lo < B64) :
    Calls Try.prog 140 #[.int .u64 0, .int .u64 (lo : Int), .int .u64 (y : Int)] w fun e w' =>
      e = .returned (.tuple #[.int .u64 ((lo / y : Nat) : Int), .int .u64 ((lo % y : Nat) : Int)]) ∧ ∃ k, w' = w.drewN k := by
  obtain ⟨q, hq⟩ : ∃ q, q = lo / y := ⟨_, rfl⟩
  obtain ⟨r, hr⟩ : ∃ r, r = lo % y := ⟨_, rfl⟩
  have d0 : ((y : Int) == 0) = false := by rw [beq_eq_false_iff_ne]; omega
  have d1 : decide ((y : Int) ≤ 0) = false := by simp; omega
  have e1 : ((lo : Int)).tdiv (y : Int) = (q : Int) := by rw [hq]; exact Int.ofNat_tdiv lo y
  have e2 : ((lo : Int)).tmod (y : Int) = (r : Int) := by rw [hr]; exact Int.ofNat_tmod lo y
  have w1 := u64_small q (by rw [hq]; exact Nat.lt_of_le_of_lt (Nat.div_le_self _ _) hlo)
  have w2 := u64_small r (by rw [hr]; exact Nat.lt_of_le_of_lt (Nat.mod_le _ _) hlo)
  rw [← hq, ← hr]
  clear hq hr
  go_enter Try.func140, Try.ntmps140
  go_wp2_with fail
  go_region
  go_wp2_with fail
  go_ret2
  exact ⟨rfl, 1, rfl⟩

theorem div64_all (hi lo y : Nat) (w : World) (hy : 2 ^ 63 ≤ y) (hyB : y < B64) (hh : hi < y) (hlo : lo < B64) :
    Calls Try.prog 140 #[.int .u64 (hi : Int), .int .u64 (lo : Int), .int .u64 (y : Int)] w fun e w' =>
      e = .returned (.tuple #[.int .u64 (((hi * B64 + lo) / y : Nat) : Int), .int .u64 (((hi * B64 + lo) % y : Nat) : Int)]) ∧ ∃ k, w' = w.drewN k := by
  rcases Nat.eq_zero_or_pos hi with h0 | h0
  · subst h0
    rw [Nat.zero_mul, Nat.zero_add]
    exact div64_zero lo y w (by omega) hyB hlo
  · exact div64_any hi lo y w hy hyB hh hlo h0
end Go.Proofs.Ytincemkjdgbnnaa

set_option linter.unusedVariables false
set_option linter.unusedSimpArgs false
namespace Go.Proofs.Ytincemkjdgbnnaa
open Go.RowKit Lm

/-- the list L with X laid over it from place off on. -/
def mid (off : Nat) (X L : List Nat) : List Nat := L.take off ++ (X ++ L.drop (off + X.length))
section
variable {off : Nat} {X L : List Nat}
theorem mid_length (h : off + X.length ≤ L.length) : (mid off X L).length = L.length := by simp [mid]; omega
theorem nth_mid {i : Nat} (h : off + X.length ≤ L.length) (hi : i < X.length) : nth (mid off X L) (off + i) = nth X i := by
  rw [mid, nth_append_right (by rw [List.length_take]; omega), List.length_take, Nat.min_eq_left (by omega), Nat.add_sub_cancel_left, nth_append_left hi]
theorem mid_set {i d : Nat} (h : off + X.length ≤ L.length) (hi : i < X.length) : (mid off X L).set (off + i) d = mid off (X.set i d) L := by
  rw [mid, List.set_append_right _ _ (by rw [List.length_take]; omega), List.length_take, Nat.min_eq_left (by omega), Nat.add_sub_cancel_left, List.set_append_left _ _ hi, mid, List.length_set]
theorem mid_self {m : Nat} (h : off + m ≤ L.length) : mid off ((L.drop off).take m) L = L := by
  have hl : ((L.drop off).take m).length = m := by simp; omega
  rw [mid, hl, ← List.drop_drop, List.take_append_drop, List.take_append_drop]
theorem nth_mid_lt {j : Nat} (h : off + X.length ≤ L.length) (hj : j < off) : nth (mid off X L) j = nth L j := by
  rw [mid, nth_append_left (by rw [List.length_take]; omega), nth_take hj]
theorem nth_mid_ge {i : Nat} (h : off + X.length ≤ L.length) (hi : X.length ≤ i) : nth (mid off X L) (off + i) = nth L (off + i) := by
  rw [mid, nth_append_right (by rw [List.length_take]; omega), List.length_take, Nat.min_eq_left (by omega), Nat.add_sub_cancel_left, nth_append_right hi, nth_drop]
  congr 1; omega
theorem mid_mid {Y : List Nat} (h : off + X.length ≤ L.length) (hl : Y.length = X.length) : mid off Y (mid off X L) = mid off Y L := by
  apply List.ext_getElem
  · rw [mid_length (by rw [mid_length h]; omega), mid_length h, mid_length (by omega)]
  · intro j h1 h2
    rw [← nth_of_lt h1, ← nth_of_lt h2]
    rw [mid_length (by omega)] at h2
    rcases Nat.lt_or_ge j off with hj | hj
    · rw [nth_mid_lt (by rw [mid_length h]; omega) hj, nth_mid_lt h hj, nth_mid_lt (by omega) hj]
    · obtain ⟨i, rfl⟩ : ∃ i, j = off + i := ⟨j - off, by omega⟩
      rcases Nat.lt_or_ge i Y.length with hi | hi
      · rw [nth_mid (by rw [mid_length h]; omega) hi, nth_mid (by omega) hi]
      · rw [nth_mid_ge (by rw [mid_length h]; omega) hi, nth_mid_ge h (by omega), nth_mid_ge (by omega) hi]
end

/-! the guess -/
theorem guess_ge {M Lu : List Nat} {n : Nat} (hM : Ok B64 M) (hL : Ok B64 Lu) (hn : M.length = n + 1) (hLn : Lu.length = n + 2) (hv : 0 < nth M n) :
    val B64 Lu / val B64 M ≤ (nth Lu (n + 1) * B64 + nth Lu n) / nth M n := by
  have hP : 0 < B64 ^ n := Nat.pow_pos B64_pos
  have h1 : val B64 M = val B64 (M.take n) + B64 ^ n * nth M n := by rw [← vt_succ M n (by omega), vt_full M (by omega)]
  have h2 : val B64 Lu = val B64 (Lu.take n) + B64 ^ n * (nth Lu n + B64 * nth Lu (n + 1)) := by
    rw [← vt_full (B := B64) Lu (i := n + 2) (by omega), vt_succ Lu (n + 1) (by omega), vt_succ Lu n (by omega), Nat.pow_succ, Nat.mul_add, Nat.mul_assoc]; omega
  have h3 := vt_lt hL B64_pos n
  have h4 : val B64 Lu / B64 ^ n = nth Lu n + B64 * nth Lu (n + 1) := by
    rw [h2, Nat.add_mul_div_left _ _ hP, Nat.div_eq_of_lt h3, Nat.zero_add]
  have h5 : val B64 Lu / val B64 M ≤ val B64 Lu / (B64 ^ n * nth M n) := Nat.div_le_div_left (by omega) (Nat.mul_pos hP hv)
  rw [← Nat.div_div_eq_div_mul, h4] at h5
  rw [Nat.mul_comm (nth Lu (n + 1)), Nat.add_comm]
  exact h5

/-! one digit of the product -/
theorem prod_digit {g v c : Nat} (hg : g < B64) (hv : v < B64) (hc : c < B64) :
    ad1 (ml1 g v) c 0 = (c + g * v) % B64 ∧ mh1 g v + cy1 (ml1 g v) c 0 = (c + g * v) / B64 ∧ (c + g * v) / B64 < B64 := by
  have h1 : g * v ≤ (B64 - 1) * (B64 - 1) := Nat.mul_le_mul (by omega) (by omega)
  have h2 : (B64 - 1) * (B64 - 1) + B64 ≤ B64 * B64 := by decide
  unfold ad1 ml1 mh1 cy1
  generalize g * v = p at *
  have hp := Nat.div_add_mod p B64
  have hm := Nat.mod_lt p B64_pos
  refine ⟨?_, ?_, ?_⟩
  · rw [Nat.add_zero, Nat.mod_add_mod, Nat.add_comm]
  · rw [Nat.add_zero]
    generalize p / B64 = a at *
    generalize p % B64 = b at *
    have : c + p = B64 * a + (b + c) := by omega
    rw [this, Nat.mul_add_div B64_pos]
  · rw [Nat.div_lt_iff_lt_mul B64_pos]; omega
theorem carry_lt {g V i : Nat} (hg : g < B64) (hV : V < B64 ^ i) : g * V / B64 ^ i < B64 := by
  rw [Nat.div_lt_iff_lt_mul (Nat.pow_pos B64_pos)]
  exact Nat.mul_lt_mul'' hg hV


theorem add_back {U V P q : Nat} (h : U < (q + 1) * V) (hU : U < P) (hq : (q + 1) * V ≤ P) (hV : 0 < V) :
    (sb P U ((q + 1) * V) + V) % P = sb P U (q * V) ∧ (sb P U ((q + 1) * V) + V) / P = 1 - bo U (q * V) := by
  rw [Nat.succ_mul] at h hq ⊢
  generalize q * V = a at *
  unfold sb bo
  rw [if_pos h]
  by_cases h1 : U < a
  · rw [if_pos h1, show U + 1 * P - (a + V) + V = U + 1 * P - a by omega]
    exact ⟨Nat.mod_eq_of_lt (by omega), by rw [Nat.div_eq_of_lt (by omega)]⟩
  · rw [if_neg h1, show U + 1 * P - (a + V) + V = (U - a) + P by omega, Nat.add_mod_right, Nat.add_div_right _ (by omega), Nat.mod_eq_of_lt (by omega), Nat.div_eq_of_lt (by omega)]
    exact ⟨by omega, by omega⟩

/-- the guess of a digit, in a slot. -/
def Guess (U V : Nat) (w : World) (s : Value) (wx : World) : Prop := ∃ g : Nat, s = .int .u64 (g : Int) ∧ U / V ≤ g ∧ g < B64 ∧ ∃ k, wx = w.drewN k

theorem div64_ret (hi lo y : Nat) (W : World) (hy : 2 ^ 63 ≤ y) (hyB : y < B64) (hh : hi < y) (hlo : lo < B64) (Q R : Nat) (hQ : Q = (hi * B64 + lo) / y) (hR : R = (hi * B64 + lo) % y) :
    Calls Try.prog 140 #[.int .u64 (hi : Int), .int .u64 (lo : Int), .int .u64 (y : Int)] W fun e w' =>
      e = .returned (.tuple #[.int .u64 (Q : Int), .int .u64 (R : Int)]) ∧ ∃ k, w' = W.drewN k := by subst hQ; subst hR; exact div64_all hi lo y W hy hyB hh hlo

set_option maxRecDepth 100000 in
set_option maxHeartbeats 3200000 in
theorem step_any (bu off c bv ov c' : Nat) (tu : TypeId) (L M : List Nat) (n : Nat) (w : World) (hL : Blk w bu tu .u64 L) (hokL : Ok B64 L) (hfit : off + (n + 2) ≤ L.length) (hc : n + 2 ≤ c)
    (hM : RowN w .u64 bv ov M) (hokM : Ok B64 M) (hMl : M.length = n + 1) (hne : bv ≠ bu) (hn : n < lim) (htop : 2 ^ 63 ≤ nth M n)
    (hlt : val B64 ((L.drop off).take (n + 2)) < val B64 M * B64) :
    Calls Try.prog 117 #[.slice (some ⟨bu, off, none⟩) (n + 2) c, .slice (some ⟨bv, ov, none⟩) (n + 1) c'] w fun e w' =>
      e = .returned (.int .u64 ((val B64 ((L.drop off).take (n + 2)) / val B64 M : Nat) : Int)) ∧
      Blk w' bu tu .u64 (mid off (fix B64 (n + 2) (val B64 ((L.drop off).take (n + 2)) % val B64 M)) L) ∧ Only w w' bu := by
  unfold lim at hn
  obtain ⟨Lu, hLu⟩ : ∃ X, X = (L.drop off).take (n + 2) := ⟨_, rfl⟩
  have hLul : Lu.length = n + 2 := by rw [hLu]; simp; omega
  have hokU : Ok B64 Lu := by rw [hLu]; exact (hokL.drop _).take _
  have hmid : mid off Lu L = L := by rw [hLu]; exact mid_self hfit
  have hcU : ∀ i, i < n + 2 → nth L (off + i) = nth Lu i := fun i hi => by rw [hLu, nth_take hi, nth_drop]
  rw [← hLu] at hlt ⊢
  obtain ⟨U, hU⟩ : ∃ U, U = val B64 Lu := ⟨_, rfl⟩
  obtain ⟨V, hV⟩ : ∃ V, V = val B64 M := ⟨_, rfl⟩
  have HUv := hide hU.symm
  have HVv := hide hV.symm
  rw [← hU, ← hV] at hlt ⊢
  have hVp : 0 < V := by
    rcases Nat.eq_zero_or_pos V with h | h
    · rw [h] at hlt; omega
    · exact h
  have hVB : V < B64 ^ (n + 1) := by rw [hV, ← hMl]; exact val_lt hokM
  have hQB : U / V < B64 := (Nat.div_lt_iff_lt_mul hVp).2 (by rw [Nat.mul_comm]; exact hlt)
  have c1 := hL.cell (i := off + (n + 1)) (by omega)
  have c2 := hL.cell (i := off + n) (by omega)
  have c3 := hM n (by omega)
  rw [hcU _ (by omega)] at c1
  rw [hcU _ (by omega)] at c2
  have hun := Ok.getD B64_pos hokU (n + 1)
  have hum := Ok.getD B64_pos hokU n
  have hvn := Ok.getD B64_pos hokM n
  change nth Lu (n + 1) < B64 at hun
  change nth Lu n < B64 at hum
  change nth M n < B64 at hvn
  have hguess := hide (guess_ge hokM hokU hMl hLul (by omega))
  rw [← hU, ← hV] at hguess
  have HL := hide hL
  have HM := hide hM
  have HMl := hide hMl
  have HLul := hide hLul
  have Hmid := hide hmid
  have Hlt := hide hlt
  clear hLu hU hV hL hM hcU hlt hMl hLul hmid
  have i1 : (n : Int) + 1 + 1 = (n + 2 : Int) := by omega
  go_enter Try.func117, Try.ntmps117
  go_wp2_with fail
  have j1 : (n : Int) + 1 < (n : Int) + 2 := by omega
  have j2 : IntKind.i64.wrap ((n : Int) + 1 - 1) = (n : Int) := by rw [wrap_in] <;> omega
  go_quiet (fail)
  go_upto_if 26 with fail
  go_cut [6] (fun s wx => Guess U V w s wx)
  case first =>
    by_cases hb : nth Lu (n + 1) < nth M n
    · have hd : decide (nth Lu (n + 1) < nth M n) = true := by simp [hb]
      have hq : (nth Lu (n + 1) * B64 + nth Lu n) / nth M n < B64 := by
        rw [Nat.div_lt_iff_lt_mul (by omega)]
        have : (nth Lu (n + 1) + 1) * B64 ≤ nth M n * B64 := Nat.mul_le_mul_right _ hb
        rw [Nat.succ_mul] at this
        rw [Nat.mul_comm B64]; omega
      have HQ := hide hq
      have HC := hide (fun W => div64_ret (nth Lu (n + 1)) (nth Lu n) (nth M n) W htop hvn hb hum _ _ rfl rfl)
      go_wp2_with fail
      go_quiet ((go_at_call 140; first | exact quiet_dr HC.out | exact quiet_dr0 HC.out))
      go_wp2_with fail
      go_meet
      exact ⟨_, rfl, hguess.out, HQ.out, _, World.drewN_drewN _ _ _⟩
    · have hd : decide (nth Lu (n + 1) < nth M n) = false := by simp [hb]
      go_wp2_with fail
      go_meet
      exact ⟨B64 - 1, by rw [B64_eq]; rfl, by omega, by decide, _, rfl⟩
  obtain ⟨g, rfl, hg1, hg2, kd, rfl⟩ := hcut
  have HL1 : Hid (Blk (w.drewN kd) bu tu .u64 L) := HL.out
  have HM1 : Hid (RowN (w.drewN kd) .u64 bv ov M) := HM.out
  have HO1 : Hid (Only w (w.drewN kd) bu) := (Only.refl w bu).drewN kd
  clear c1 c2 c3 hun hum hvn hguess HL HM
  generalize w.drewN kd = w1 at *
  go_wp2_with fail
  go_loopw [7, 8, 9, 10, 11, 12, 47] (fun b_ cy _ _ _ _ k wr => ∃ i : Nat, i ≤ n + 1 ∧ k = .int .i64 i ∧ b_ = .int .u64 (bo (val B64 (Lu.take i)) (g * val B64 (M.take i) % B64 ^ i) : Int) ∧
    cy = .int .u64 ((g * val B64 (M.take i) / B64 ^ i : Nat) : Int) ∧ Only w1 wr bu ∧
    Blk wr bu tu .u64 (mid off (ch B64 i (sb (B64 ^ i) (val B64 (Lu.take i)) (g * val B64 (M.take i) % B64 ^ i)) Lu) L)) (fun _ _ _ _ _ _ k _ => n + 1 - (intOf k).toNat)
  case atStart =>
    exact ⟨0, Nat.zero_le _, rfl, by simp [bo], by simp, Only.refl _ _, by rw [ch_zero, Hmid.out]; exact HL1.out⟩
  case round =>
    obtain ⟨i, hi, rfl, rfl, rfl, hon, hblk⟩ := hrel
    have hPp : 0 < B64 ^ i := Nat.pow_pos B64_pos
    have ha := vt_lt hokU B64_pos i
    have hb' : g * val B64 (M.take i) % B64 ^ i < B64 ^ i := Nat.mod_lt _ hPp
    have hbo := bo_le (val B64 (Lu.take i)) (g * val B64 (M.take i) % B64 ^ i)
    have hsb := sb_lt ha hb'
    have hcl : (ch B64 i (sb (B64 ^ i) (val B64 (Lu.take i)) (g * val B64 (M.take i) % B64 ^ i)) Lu).length = n + 2 := by rw [ch_length (by rw [HLul.out]; omega), HLul.out]
    have hk := carry_lt hg2 (vt_lt hokM B64_pos i)
    by_cases hlt : i < n + 1
    · have hrow2 := hon.row HM1.out hne
      have hcell := hrow2 i (by rw [HMl.out]; exact hlt)
      have hx : nth Lu i < B64 := Ok.getD B64_pos hokU _
      have hy : nth M i < B64 := Ok.getD B64_pos hokM _
      have hcell2 := hblk.cell (i := off + i) (by rw [mid_length (by rw [hcl]; exact hfit)]; omega)
      rw [nth_mid (by rw [hcl]; exact hfit) (by rw [hcl]; omega), nth_ch (Nat.le_refl _)] at hcell2
      have hfr := hblk.frozen (off + i)
      obtain ⟨pd1, pd2, pd3⟩ := prod_digit hg2 hy hk
      have hT : g * val B64 (M.take (i + 1)) = g * val B64 (M.take i) + B64 ^ i * (g * nth M i) := by
        rw [vt_succ', Nat.mul_add, Nat.mul_left_comm]
      have HN2 := hide (show (g * val B64 (M.take i) / B64 ^ i + g * nth M i) / B64 = g * val B64 (M.take (i + 1)) / B64 ^ (i + 1) by rw [hT, Nat.pow_succ, carry_div hPp])
      have hP1 : g * val B64 (M.take (i + 1)) % B64 ^ (i + 1) = g * val B64 (M.take i) % B64 ^ i + B64 ^ i * ad1 (ml1 g (nth M i)) (g * val B64 (M.take i) / B64 ^ i) 0 := by
        rw [hT, Nat.pow_succ, carry_mod, pd1]
      have HN1 := hide (show bo1 (nth Lu i) (ad1 (ml1 g (nth M i)) (g * val B64 (M.take i) / B64 ^ i) 0) (bo (val B64 (Lu.take i)) (g * val B64 (M.take i) % B64 ^ i)) =
          bo (val B64 (Lu.take (i + 1))) (g * val B64 (M.take (i + 1)) % B64 ^ (i + 1)) by
        rw [vt_succ', hP1, bo_step ha hb']; rfl)
      have HB := hide (show Blk (wr.setCell ⟨bu, off + i, none⟩ (.int .u64 (df1 (nth Lu i) (ad1 (ml1 g (nth M i)) (g * val B64 (M.take i) / B64 ^ i) 0) (bo (val B64 (Lu.take i)) (g * val B64 (M.take i) % B64 ^ i)) : Int))) bu tu .u64
          (mid off (ch B64 (i + 1) (sb (B64 ^ (i + 1)) (val B64 (Lu.take (i + 1))) (g * val B64 (M.take (i + 1)) % B64 ^ (i + 1))) Lu) L) by
        have h1 := hblk.set_ (off + i) (E := _) (z := df1 (nth Lu i) (ad1 (ml1 g (nth M i)) (g * val B64 (M.take i) / B64 ^ i) 0) (bo (val B64 (Lu.take i)) (g * val B64 (M.take i) % B64 ^ i))) rfl
        rw [mid_set (by rw [hcl]; exact hfit) (by rw [hcl]; omega), ch_set (by rw [HLul.out]; omega) hsb (df1_lt _ _ _)] at h1
        rw [vt_succ' Lu, hP1, Nat.pow_succ, sb_step ha hb' hx (ad1_lt _ _ _)]
        exact h1)
      have Hon := hide hon
      have HC := hide (mul64_any g (nth M i) hg2 hy)
      have ek : IntKind.u64.wrap ((mh1 g (nth M i) : Int) + (cy1 (ml1 g (nth M i)) (g * val B64 (M.take i) / B64 ^ i) 0 : Int)) = (((g * val B64 (M.take i) / B64 ^ i + g * nth M i) / B64 : Nat) : Int) := by
        rw [← pd2, Int.natCast_add, ← Int.natCast_add, u64_small _ (by rw [pd2]; exact pd3)]
      have HK := hide pd3
      generalize (g * val B64 (M.take i) / B64 ^ i + g * nth M i) / B64 = kk at *
      clear hP1 hT pd1 pd2 pd3 hcl ha hb' hblk hon hrow2 hsb
      generalize bo (val B64 (Lu.take i)) (g * val B64 (M.take i) % B64 ^ i) = b0 at *
      generalize g * val B64 (M.take i) / B64 ^ i = k0 at *
      generalize nth Lu i = x at *
      generalize nth M i = y at *
      generalize hl : ml1 g y = ml at *
      generalize hh : mh1 g y = mh at *
      have hl := hide hl
      have hh := hide hh
      go_wp2_with fail
      refine (HC.out _).mono ?_
      rintro e w' ⟨rfl, rfl⟩
      go_wp2_with fail
      exact ⟨⟨i + 1, by omega, by simp, by rw [HN1.out], by rw [HN2.out], Hon.out.set_ _ _, HB.out⟩, by simp [intOf]; omega⟩
    · obtain rfl : i = n + 1 := by omega
      have hVt : val B64 (M.take (n + 1)) = V := by rw [vt_full M (by rw [HMl.out]; exact Nat.le_refl _), HVv.out]
      have hgV : g * V < B64 ^ (n + 1 + 1) := by
        rw [Nat.pow_succ, Nat.mul_comm]; exact Nat.mul_lt_mul'' hVB hg2
      have hx : nth Lu (n + 1) < B64 := Ok.getD B64_pos hokU _
      have hUt : U = val B64 (Lu.take (n + 1)) + B64 ^ (n + 1) * nth Lu (n + 1) := by rw [← vt_succ', vt_full Lu (by rw [HLul.out]; exact Nat.le_refl _), HUv.out]
      have hPt : g * V = g * V % B64 ^ (n + 1) + B64 ^ (n + 1) * (g * V / B64 ^ (n + 1)) := (Nat.mod_add_div _ _).symm
      rw [hVt] at hb' hbo hsb hcl hk hblk ⊢
      have hcell2 := hblk.cell (i := off + (n + 1)) (by rw [mid_length (by rw [hcl]; exact hfit)]; omega)
      rw [nth_mid (by rw [hcl]; exact hfit) (by rw [hcl]; omega), nth_ch (Nat.le_refl _)] at hcell2
      have hfr := hblk.frozen (off + (n + 1))
      have HN := hide (show bo1 (nth Lu (n + 1)) (g * V / B64 ^ (n + 1)) (bo (val B64 (Lu.take (n + 1))) (g * V % B64 ^ (n + 1))) = bo U (g * V) by
        conv => rhs; rw [hUt, hPt]
        rw [bo_step ha hb']; rfl)
      have HB := hide (show Blk (wr.setCell ⟨bu, off + (n + 1), none⟩ (.int .u64 (df1 (nth Lu (n + 1)) (g * V / B64 ^ (n + 1)) (bo (val B64 (Lu.take (n + 1))) (g * V % B64 ^ (n + 1))) : Int))) bu tu .u64
          (mid off (fix B64 (n + 2) (sb (B64 ^ (n + 2)) U (g * V))) L) by
        have h1 := hblk.set_ (off + (n + 1)) (E := _) (z := df1 (nth Lu (n + 1)) (g * V / B64 ^ (n + 1)) (bo (val B64 (Lu.take (n + 1))) (g * V % B64 ^ (n + 1)))) rfl
        rw [mid_set (by rw [hcl]; exact hfit) (by rw [hcl]; omega), ch_set (by rw [HLul.out]; omega) hsb (df1_lt _ _ _), ch_full' (by rw [HLul.out])] at h1
        have e : sb (B64 ^ (n + 2)) U (g * V) = sb (B64 ^ (n + 1)) (val B64 (Lu.take (n + 1))) (g * V % B64 ^ (n + 1)) + B64 ^ (n + 1) * df1 (nth Lu (n + 1)) (g * V / B64 ^ (n + 1)) (bo (val B64 (Lu.take (n + 1))) (g * V % B64 ^ (n + 1))) := by
          conv => lhs; rw [hUt, hPt, Nat.pow_succ]
          rw [sb_step ha hb' hx hk]; rfl
        rw [e]; exact h1)
      have Hon := hide ((HO1.out.trans hon).set_ (off + (n + 1)) (.int .u64 (df1 (nth Lu (n + 1)) (g * V / B64 ^ (n + 1)) (bo (val B64 (Lu.take (n + 1))) (g * V % B64 ^ (n + 1))) : Int)))
      have hrow3 := hide ((hon.set_ (off + (n + 1)) (.int .u64 (df1 (nth Lu (n + 1)) (g * V / B64 ^ (n + 1)) (bo (val B64 (Lu.take (n + 1))) (g * V % B64 ^ (n + 1))) : Int))).row HM1.out hne)
      clear hPt hUt hVt hcl ha hb' hblk hon hsb hPp
      generalize bo (val B64 (Lu.take (n + 1))) (g * V % B64 ^ (n + 1)) = b0 at *
      generalize g * V / B64 ^ (n + 1) = k0 at *
      generalize nth Lu (n + 1) = x at *
      go_wp2_with fail
      rw [HN.out]
      have HB := HB.out
      have HM2 := hrow3.out
      have HO2 := Hon.out
      generalize wr.setCell _ _ = w2 at *
      have HB := hide HB
      have HM2 := hide HM2
      have HO2 := hide HO2
      clear hcell2 hfr HN Hon hrow3 HL1 HM1 HO1
      have hUP : U < B64 ^ (n + 2) := by rw [← HUv.out, ← HLul.out]; exact val_lt hokU
      go_loopw [6, 7, 13, 14, 101] (fun s6 s7 _ _ _ wr => ∃ q : Nat, s6 = .int .u64 (q : Int) ∧ U / V ≤ q ∧ q < B64 ∧ s7 = .int .u64 (bo U (q * V) : Int) ∧ Only w wr bu ∧
        Hid (RowN wr .u64 bv ov M) ∧ Blk wr bu tu .u64 (mid off (fix B64 (n + 2) (sb (B64 ^ (n + 2)) U (q * V))) L)) (fun s6 _ _ _ _ _ => (intOf s6).toNat)
      case atStart => exact ⟨g, rfl, hg1, hg2, rfl, HO2.out, HM2, HB.out⟩
      case round =>
        obtain ⟨q, rfl, hq1, hq2, rfl, hon, hrowM, hblk⟩ := hrel
        clear HB HM2 HO2
        have Hon := hide hon
        have Hblk := hide hblk
        clear hon hblk
        by_cases hlt : U < q * V
        · have hq0 : 0 < q := by
            rcases Nat.eq_zero_or_pos q with h | h
            · rw [h, Nat.zero_mul] at hlt; omega
            · exact h
          obtain ⟨q1, rfl⟩ : ∃ k, q = k + 1 := ⟨q - 1, by omega⟩
          have hqP : (q1 + 1) * V ≤ B64 ^ (n + 2) := by
            rw [Nat.pow_succ, Nat.mul_comm]; exact Nat.mul_le_mul (by omega) (by omega)
          obtain ⟨ab1, ab2⟩ := add_back hlt hUP hqP hVp
          have hqU : U / V ≤ q1 := by
            have : U / V < q1 + 1 := by rw [Nat.div_lt_iff_lt_mul hVp]; exact hlt
            omega
          have hb1 : bo U ((q1 + 1) * V) = 1 := by unfold bo; rw [if_pos hlt]
          rw [hb1]
          have hsl : sb (B64 ^ (n + 2)) U ((q1 + 1) * V) < B64 ^ (n + 2) := by unfold sb bo; rw [if_pos hlt]; omega
          obtain ⟨S, hS⟩ : ∃ S, S = fix B64 (n + 2) (sb (B64 ^ (n + 2)) U ((q1 + 1) * V)) := ⟨_, rfl⟩
          have hSl : S.length = n + 2 := by rw [hS, fix_length]
          have hokS : Ok B64 S := by rw [hS]; exact fix_ok B64_pos _ _
          have hSv : val B64 S = sb (B64 ^ (n + 2)) U ((q1 + 1) * V) := by rw [hS, val_fix_of_lt hsl]
          rw [← hS] at Hblk
          rw [← hSv] at ab1 ab2
          have e1 : ((q1 + 1 : Nat) : Int) - 1 = (q1 : Int) := by omega
          have x1 := u64_small q1 (by omega)
          have HSl := hide hSl
          have HSv := hide hSv
          have Hab1 := hide ab1
          have Hab2 := hide ab2
          clear hS hSl hSv ab1 ab2 hb1 hsl
          have Hlt2 := hide hlt
          clear hlt
          obtain ⟨q2, hq2e⟩ : ∃ q2, q2 = q1 + 1 := ⟨_, rfl⟩
          rw [← hq2e] at e1 hq2 ⊢
          have Hq2e := hide hq2e
          clear hq2e
          go_wp2_with fail
          go_loopw [13, 14, 101] (fun cy _ k wx => ∃ i : Nat, i ≤ n + 1 ∧ k = .int .i64 i ∧ cy = .int .u64 (((val B64 (S.take i) + val B64 (M.take i)) / B64 ^ i : Nat) : Int) ∧ Only w wx bu ∧
            Hid (RowN wx .u64 bv ov M) ∧ Blk wx bu tu .u64 (mid off (ch B64 i ((val B64 (S.take i) + val B64 (M.take i)) % B64 ^ i) S) L)) (fun _ _ k _ => n + 1 - (intOf k).toNat)
          case atStart => exact ⟨0, Nat.zero_le _, rfl, by simp, Hon.out, hrowM, by rw [ch_zero]; exact Hblk.out⟩
          case round =>
            obtain ⟨i, hi, rfl, rfl, hon, hrow2, hblk⟩ := hrel
            have hT := carry_le (vt_lt hokS B64_pos i) (vt_lt hokM B64_pos i)
            have hTm : (val B64 (S.take i) + val B64 (M.take i)) % B64 ^ i < B64 ^ i := Nat.mod_lt _ (Nat.pow_pos B64_pos)
            have hcl : (ch B64 i ((val B64 (S.take i) + val B64 (M.take i)) % B64 ^ i) S).length = n + 2 := by rw [ch_length (by rw [HSl.out]; omega), HSl.out]
            by_cases hlt : i < n + 1
            · have hcell := hrow2.out i (by rw [HMl.out]; exact hlt)
              have hcell2 := hblk.cell (i := off + i) (by rw [mid_length (by rw [hcl]; exact hfit)]; omega)
              rw [nth_mid (by rw [hcl]; exact hfit) (by rw [hcl]; omega), nth_ch (Nat.le_refl _)] at hcell2
              have hfr := hblk.frozen (off + i)
              have hT' : val B64 (S.take (i + 1)) + val B64 (M.take (i + 1)) = val B64 (S.take i) + val B64 (M.take i) + B64 ^ i * (nth S i + nth M i) := by
                rw [vt_succ', vt_succ', Nat.mul_add]; omega
              have HN := hide (show cy1 (nth S i) (nth M i) ((val B64 (S.take i) + val B64 (M.take i)) / B64 ^ i) = (val B64 (S.take (i + 1)) + val B64 (M.take (i + 1))) / B64 ^ (i + 1) by
                unfold cy1; rw [hT', Nat.pow_succ, carry_div (Nat.pow_pos B64_pos), Nat.add_comm])
              have HB := hide (show Blk (wr.setCell ⟨bu, off + i, none⟩ (.int .u64 (ad1 (nth S i) (nth M i) ((val B64 (S.take i) + val B64 (M.take i)) / B64 ^ i) : Int))) bu tu .u64
                  (mid off (ch B64 (i + 1) ((val B64 (S.take (i + 1)) + val B64 (M.take (i + 1))) % B64 ^ (i + 1)) S) L) by
                have h1 := hblk.set_ (off + i) (E := _) (z := ad1 (nth S i) (nth M i) ((val B64 (S.take i) + val B64 (M.take i)) / B64 ^ i)) rfl
                rw [mid_set (by rw [hcl]; exact hfit) (by rw [hcl]; omega), ch_set (by rw [HSl.out]; omega) hTm (ad1_lt _ _ _)] at h1
                unfold ad1 at h1 ⊢
                rw [hT', Nat.pow_succ, carry_mod, Nat.add_comm ((val B64 (S.take i) + val B64 (M.take i)) / B64 ^ i)]
                exact h1)
              have Hon2 := hide hon
              have hrow4 : Hid (RowN (wr.setCell ⟨bu, off + i, none⟩ (.int .u64 (ad1 (nth S i) (nth M i) ((val B64 (S.take i) + val B64 (M.take i)) / B64 ^ i) : Int))) .u64 bv ov M) :=
                ((Only.refl wr bu).set_ (off + i) _).row hrow2.out hne
              clear hblk hon hT' hcl hrow2
              generalize (val B64 (S.take i) + val B64 (M.take i)) / B64 ^ i = k1 at *
              generalize nth S i = sx at *
              generalize nth M i = y at *
              go_wp2_with fail
              go_region
              go_wp2_with fail
              exact ⟨⟨i + 1, by omega, by simp, by rw [HN.out], (Hon2.out.set_ _ _).drew, hrow4.out, HB.out.drew⟩, by simp [intOf]; omega⟩
            · obtain rfl : i = n + 1 := by omega
              rw [vt_full M (by rw [HMl.out]; exact Nat.le_refl _), HVv.out] at hT hTm hcl hblk ⊢
              have hTS : val B64 S + V = val B64 (S.take (n + 1)) + V + B64 ^ (n + 1) * nth S (n + 1) := by
                have : val B64 S = val B64 (S.take (n + 1)) + B64 ^ (n + 1) * nth S (n + 1) := by rw [← vt_succ', vt_full S (by rw [HSl.out]; exact Nat.le_refl _)]
                omega
              have hcell2 := hblk.cell (i := off + (n + 1)) (by rw [mid_length (by rw [hcl]; exact hfit)]; omega)
              rw [nth_mid (by rw [hcl]; exact hfit) (by rw [hcl]; omega), nth_ch (Nat.le_refl _)] at hcell2
              have hfr := hblk.frozen (off + (n + 1))
              have HN := hide (show cy1 (nth S (n + 1)) 0 ((val B64 (S.take (n + 1)) + V) / B64 ^ (n + 1)) = 1 - bo U (q1 * V) by
                rw [← Hab2.out, hTS, Nat.pow_succ B64 (n + 1), carry_div (Nat.pow_pos B64_pos)]; unfold cy1; rw [Nat.add_zero, Nat.add_comm])
              have HB := hide (show Blk (wr.setCell ⟨bu, off + (n + 1), none⟩ (.int .u64 (ad1 (nth S (n + 1)) 0 ((val B64 (S.take (n + 1)) + V) / B64 ^ (n + 1)) : Int))) bu tu .u64
                  (mid off (fix B64 (n + 2) (sb (B64 ^ (n + 2)) U (q1 * V))) L) by
                have h1 := hblk.set_ (off + (n + 1)) (E := _) (z := ad1 (nth S (n + 1)) 0 ((val B64 (S.take (n + 1)) + V) / B64 ^ (n + 1))) rfl
                rw [mid_set (by rw [hcl]; exact hfit) (by rw [hcl]; omega), ch_set (by rw [HSl.out]; omega) hTm (ad1_lt _ _ _), ch_full' (by rw [HSl.out])] at h1
                rw [← Hab1.out, hTS, Nat.pow_succ B64 (n + 1), carry_mod]
                have e0 : ∀ a b, ad1 a 0 b = (b + a) % B64 := fun a b => by unfold ad1; rw [Nat.add_zero, Nat.add_comm]
                rw [e0] at h1
                rw [e0]
                exact h1)
              have hrow4 : Hid (RowN (wr.setCell ⟨bu, off + (n + 1), none⟩ (.int .u64 (ad1 (nth S (n + 1)) 0 ((val B64 (S.take (n + 1)) + V) / B64 ^ (n + 1)) : Int))) .u64 bv ov M) :=
                ((Only.refl wr bu).set_ (off + (n + 1)) _).row hrow2.out hne
              have Hon2 := hide hon
              have hbo := bo_le U (q1 * V)
              have ew : IntKind.u64.wrap (((1 : Nat) : Int) - ((1 - bo U (q1 * V) : Nat) : Int)) = (bo U (q1 * V) : Int) := by
                rw [wrap_u] <;> omega
              rw [← HN.out] at ew
              simp only [Int.natCast_one] at ew
              clear hblk hon hTS hcl hrow2
              generalize (val B64 (S.take (n + 1)) + V) / B64 ^ (n + 1) = k1 at *
              generalize nth S (n + 1) = sx at *
              go_wp2_with fail
              exact ⟨⟨q1, rfl, hqU, by have := Hq2e.out; omega, rfl, Hon2.out.set_ _ _, hrow4, HB.out⟩, by have := Hq2e.out; simp [intOf]; omega⟩
        · have hb0 : bo U (q * V) = 0 := by unfold bo; rw [if_neg hlt]
          have hqe : q = U / V := by
            refine Nat.le_antisymm ?_ hq1
            rw [Nat.le_div_iff_mul_le hVp]; omega
          have hse : sb (B64 ^ (n + 2)) U (q * V) = U % V := by
            unfold sb; rw [hb0, hqe, Nat.zero_mul, Nat.add_zero]
            have := Nat.div_add_mod U V
            rw [Nat.mul_comm] at this
            omega
          rw [hse] at Hblk
          rw [hb0]
          have Hqe := hide hqe
          clear hqe hse hb0 hlt
          go_wp2_with fail
          go_ret
          exact ⟨ret_int (by rw [Hqe.out]), Hblk.out, Hon.out⟩
end Go.Proofs.Ytincemkjdgbnnaa

set_option linter.unusedVariables false
set_option linter.unusedSimpArgs false
namespace Go.Proofs.Ytincemkjdgbnnaa
open Go.RowKit Lm

/-- v owns a row that reads as l. -/
def Own (w : World) (base : Nat) (k : IntKind) (e : TypeId) (v : Value) (l : List Nat) : Prop := w.ownsRow base e 1 v l.length (l.map fun n : Nat => Value.int k (n : Int))

theorem Own.nil (w : World) (base : Nat) (k : IntKind) (e : TypeId) : Own w base k e (.slice none 0 0) [] := World.ownsRow_nil w base e 1
theorem Own.slice {w : World} {base : Nat} {k : IntKind} {e : TypeId} {v : Value} {l : List Nat} (h : Own w base k e v l) : ∃ A c, v = .slice A l.length c ∧ l.length ≤ c ∧ Rd w k A l := by
  rcases h.2 with ⟨rfl, h0⟩ | ⟨g, cap, cur, rfl, _, hh, hc, hm, hs, ht⟩
  · have : l = [] := List.length_eq_zero_iff.1 h0
    subst this
    exact ⟨none, 0, rfl, Nat.le_refl _, Rd.nil _ _ _⟩
  · refine ⟨_, cap, rfl, hc, fun _ => ⟨g, 0, rfl, fun i hi => ?_⟩⟩
    have := World.ownsRow.cells h (g := g) rfl i (.int k (nth l i : Int)) (by rw [List.getElem?_map, List.getElem?_eq_getElem hi, nth_of_lt hi]; rfl)
    rwa [add_off] at this
theorem Own.below {w w' : World} {base : Nat} {k : IntKind} {e : TypeId} {v : Value} {l : List Nat} (h : Own w base k e v l) (hb : Below w.heap.size w w') : Own w' base k e v l :=
  World.ownsRow.kept h (row := none) ⟨hb.os, hb.tape, hb.output, hb.size, fun i hi _ => hb.block i hi⟩ (by cases v.ownBlock <;> simp)

theorem app_n {P : Program} {w : World} {t ty e : TypeId} {k : IntKind} {by_ : Nat} (ht : P.underlying t = some (.slice e)) (hinfo : (P.info? e).map (fun i => (i.zero, i.size, i.bytes)) = some (some (.int k 0), 1, by_)) (hby : by_ ≤ 8)
    {base : Nat} {v : Value} {l : List Nat} (hown : Own w base k e v l) {A : Option Addr} {c : Nat} {m : List Nat} (hr : Rd w k A m) (hlen : l.length + m.length ≤ 8796093022208) (hbase : base ≤ w.heap.size) :
    ∃ v' w', (Builtin.append_ #[t, t] ty #[v, .slice A m.length c]).run P w = .ok v' w' ∧ Own w' base k e v' (l ++ m) ∧ w.grownBy w' v.ownBlock ∧ (v'.ownBlock = v.ownBlock ∨ v'.ownBlock = some w.heap.size) := by
  obtain ⟨i, hi, hz, hs, hb⟩ := info_parts hinfo
  rcases Nat.eq_zero_or_pos m.length with h0 | h0
  · have hm : m = [] := List.length_eq_zero_iff.1 h0
    subst hm
    refine ⟨v, w, ?_, by rw [List.append_nil]; exact hown, World.grownBy.refl w _, .inl rfl⟩
    rcases hown.2 with ⟨rfl, h2⟩ | ⟨g, cap, cur, rfl, _, _, hnc, _⟩
    · cases A <;> simp [Builtin.append_, run_underlying ht, sizeOf, typeInfo, hi, Builtin.lenOf, Builtin.firstCells, loadCells, loadCellsFrom]
    · cases A <;> simp [Builtin.append_, run_underlying ht, sizeOf, typeInfo, hi, Builtin.lenOf, Builtin.firstCells, hnc, storeCells, loadCells, loadCellsFrom]
  · obtain ⟨b, off, rfl, hrow⟩ := hr h0
    obtain ⟨v', w', hrun, h2, h3, _, h5⟩ := run_append_own_at (P := P) w base t ty e i (.int k 0) 1 by_ ht hi hz hs hb rfl (by omega) v l.length _ hown ⟨b, off, none⟩ m.length c
      (m.map fun n : Nat => Value.int k (n : Int)) (by simp) (fun j u hj => by
        rw [List.getElem?_map] at hj
        cases hq : m[j]? with
        | none => rw [hq] at hj; cases hj
        | some x =>
          rw [hq] at hj
          obtain ⟨h1, h2⟩ := List.getElem?_eq_some_iff.1 hq
          rw [add_off, hrow j h1, ← hj, nth_of_lt h1, h2]; rfl) (fun u hu => by obtain ⟨x, _, rfl⟩ := List.mem_map.1 hu; rfl)
      (by simp only [maxLen]; omega) (by
        have : (l.length + m.length) * by_ ≤ 8796093022208 * 8 := Nat.mul_le_mul hlen hby
        omega) hbase
    refine ⟨v', w', hrun, ?_, h3, h5⟩
    unfold Own
    rw [List.length_append, List.map_append]
    exact h2

/-- an append whose run is known. -/
theorem wpList_app {P : Program} {ops : Array Oper} {rest : List Oper} {o : Oper} {a : Act} {w : World} {Q : Exit → Act → World → Prop} (hgd : o.guard = none) (s x : Operand) (t : TypeId)
    (ho : o.op = .call { callee := .builtin .append, args := #[s, x], argTypes := #[t, t] }) {vs vx v' : Value} {w' : World} (hs : a.eval s = vs) (hx : a.eval x = vx)
    (hrun : (Builtin.append_ #[t, t] o.type #[vs, vx]).run P w = .ok v' w') (h : wpList P ops Q rest (a.put o.dst v') w') : wpList P ops Q (o :: rest) a w := by
  refine wpList_plain hgd fun K hK => ?_
  unfold Oper.wp execOp
  simp only [ho, resolve, invoke, builtin, Sem.run_bind, Sem.run_pure, Result.andThen_ok, List.map_toArray, List.map_cons, List.map_nil, hs, hx, hrun]
  exact hK _ _ h
end Go.Proofs.Ytincemkjdgbnnaa

set_option linter.unusedVariables false
set_option linter.unusedSimpArgs false
namespace Go.Proofs.Ytincemkjdgbnnaa
open Go.RowKit Lm

/-- a digit of a number that is shifted to the right. -/
theorem shr_digit {W i s : Nat} (hs : s < 64) (hs0 : 0 < s) : W / 2 ^ s / B64 ^ i % B64 = (W / B64 ^ i % B64 / 2 ^ s) ||| ((W / B64 ^ (i + 1) % B64) * 2 ^ (64 - s) % B64) := by
  have hsp : 0 < 2 ^ s := Nat.pow_pos (by omega)
  have hB : B64 = 2 ^ s * 2 ^ (64 - s) := by rw [← Nat.pow_add]; unfold B64; congr 1; omega
  generalize hS : 2 ^ s = S at *
  generalize hC : 2 ^ (64 - s) = C at *
  have hCp : 0 < C := by rw [← hC]; exact Nat.pow_pos (by omega)
  rw [Nat.div_div_eq_div_mul, Nat.mul_comm S, ← Nat.div_div_eq_div_mul, Nat.pow_succ, ← Nat.div_div_eq_div_mul W (B64 ^ i)]
  generalize W / B64 ^ i = t
  have ht := Nat.div_add_mod t B64
  have hf := Nat.mod_lt t (show 0 < B64 by decide)
  generalize t / B64 = q at *
  generalize t % B64 = f at *
  have h4 : t / S = q * C + f / S := by rw [← ht, hB, show S * C * q + f = S * (q * C) + f by rw [Nat.mul_assoc, Nat.mul_comm C q], Nat.mul_add_div hsp]
  have h5 : f / S < C := by rw [Nat.div_lt_iff_lt_mul hsp, Nat.mul_comm, ← hB]; exact hf
  have h6 : q * C % B64 = C * (q % S) := by rw [hB, Nat.mul_comm S C, Nat.mul_comm q C, Nat.mul_mod_mul_left]
  have h7 : q % B64 * C % B64 = C * (q % S) := by rw [Nat.mul_comm _ C, hB, Nat.mul_comm S C, Nat.mul_mod_mul_left, Nat.mod_mul_left_mod]
  have h8 : C * (q % S) + f / S < B64 := by
    have : q % S < S := Nat.mod_lt _ hsp
    have : C * (q % S) + C ≤ C * S := by rw [← Nat.mul_succ]; exact Nat.mul_le_mul_left _ this
    rw [hB, Nat.mul_comm S C]; omega
  have h9 : f / S < B64 := by omega
  rw [h4, Nat.add_mod, h6, Nat.mod_eq_of_lt h9, Nat.mod_eq_of_lt h8, h7]
  rw [← hC] at h5 ⊢
  rw [Nat.or_comm]
  exact Nat.two_pow_add_eq_or_of_lt h5 (q % S)
theorem shr_digit0 {W i : Nat} : W / 2 ^ 0 / B64 ^ i % B64 = W / B64 ^ i % B64 / 2 ^ 0 := by simp

/-- one step of a long division, in numbers: W the rest so far, below V B^(j+1). -/
theorem long_step {W V P B : Nat} (hV : 0 < V) (hP : 0 < P) (hW : W < V * (P * B)) :
    W / P < V * B ∧ W % P + P * (W / P % V) = W % (V * P) ∧ W / P / V = W / (V * P) ∧ W % (V * P) < V * P := by
  refine ⟨?_, ?_, ?_, Nat.mod_lt _ (Nat.mul_pos hV hP)⟩
  · rw [Nat.div_lt_iff_lt_mul hP, Nat.mul_assoc, Nat.mul_comm B P]; exact hW
  · rw [Nat.mul_comm V P, Nat.mod_mul]
  · rw [Nat.div_div_eq_div_mul, Nat.mul_comm]

theorem mid_fix {off k m W x : Nat} (hfit : off + k ≤ m) (hx : x < B64 ^ k) (hW : W < B64 ^ (off + k)) :
    mid off (fix B64 k x) (fix B64 m W) = fix B64 m (W % B64 ^ off + B64 ^ off * x) := by
  have hlo : W % B64 ^ off < B64 ^ off := Nat.mod_lt _ (Nat.pow_pos B64_pos)
  have hv : W % B64 ^ off + B64 ^ off * x < B64 ^ (off + k) := by
    rw [Nat.pow_add]
    have : B64 ^ off * x + B64 ^ off ≤ B64 ^ off * B64 ^ k := by rw [← Nat.mul_succ]; exact Nat.mul_le_mul_left _ hx
    omega
  have hvm := Nat.lt_of_lt_of_le hv (Nat.pow_le_pow_right B64_pos hfit)
  apply List.ext_getElem
  · rw [mid_length (by rw [fix_length, fix_length]; exact hfit), fix_length, fix_length]
  · intro j h1 h2
    rw [← nth_of_lt h1, ← nth_of_lt h2]
    rw [fix_length] at h2
    rcases Nat.lt_or_ge j off with hj | hj
    · rw [nth_mid_lt (by rw [fix_length, fix_length]; exact hfit) hj, nth_fix h2, nth_fix h2]
      have e : B64 ^ off = B64 ^ j * (B64 * B64 ^ (off - j - 1)) := by rw [← Nat.pow_succ', ← Nat.pow_add]; congr 1; omega
      have h3 : (W % B64 ^ off + B64 ^ off * x) % B64 ^ off = W % B64 ^ off := by rw [Nat.add_mul_mod_self_left, Nat.mod_mod]
      have key : ∀ y, y / B64 ^ j % B64 = y % B64 ^ off / B64 ^ j % B64 := fun y => by
        rw [e, Nat.mod_mul, Nat.add_mul_div_left _ _ (Nat.pow_pos B64_pos), Nat.div_eq_of_lt (Nat.mod_lt _ (Nat.pow_pos B64_pos)), Nat.zero_add, Nat.mod_mul_right_mod]
      rw [key W, key (W % B64 ^ off + B64 ^ off * x), h3]
    · obtain ⟨i, rfl⟩ : ∃ i, j = off + i := ⟨j - off, by omega⟩
      have h4 : (W % B64 ^ off + B64 ^ off * x) / B64 ^ (off + i) = x / B64 ^ i := by
        rw [Nat.pow_add, ← Nat.div_div_eq_div_mul, Nat.add_mul_div_left _ _ (Nat.pow_pos B64_pos), Nat.div_eq_of_lt hlo, Nat.zero_add]
      rw [nth_fix h2, h4]
      rcases Nat.lt_or_ge i k with hi | hi
      · rw [nth_mid (by rw [fix_length, fix_length]; exact hfit) (by rw [fix_length]; exact hi), nth_fix hi]
      · rw [nth_mid_ge (by rw [fix_length, fix_length]; exact hfit) (by rw [fix_length]; exact hi), nth_fix h2]
        rw [Nat.div_eq_of_lt (Nat.lt_of_lt_of_le hW (Nat.pow_le_pow_right B64_pos (by omega))), Nat.div_eq_of_lt (Nat.lt_of_lt_of_le hx (Nat.pow_le_pow_right B64_pos hi))]

theorem val_mid_digits {W j k m : Nat} (hfit : j + k ≤ m) (hW : W < B64 ^ (j + k)) : val B64 (((fix B64 m W).drop j).take k) = W / B64 ^ j := by
  have hl : (((fix B64 m W).drop j).take k).length = k := by simp [fix_length]; omega
  have h : ((fix B64 m W).drop j).take k = fix B64 k (W / B64 ^ j) := by
    apply List.ext_getElem
    · rw [hl, fix_length]
    · intro i h1 h2
      rw [← nth_of_lt h1, ← nth_of_lt h2]
      rw [hl] at h1
      rw [nth_take h1, nth_drop, nth_fix (by omega), nth_fix h1, Nat.pow_add, Nat.div_div_eq_div_mul]
  rw [h, val_fix_of_lt]
  rw [Nat.div_lt_iff_lt_mul (Nat.pow_pos B64_pos), ← Nat.pow_add, Nat.add_comm]; exact hW

/-- DivMod's answer. -/
def RetDM (w : World) (q r : Nat) (e : Ending) (w' : World) : Prop :=
  ∃ A c A' c', e = .returned (.tuple #[.slice A (digs B64 q).length c, .slice A' (digs B64 r).length c']) ∧ (digs B64 q).length ≤ c ∧ (digs B64 r).length ≤ c' ∧
    Rd w' .u64 A (digs B64 q) ∧ Rd w' .u64 A' (digs B64 r) ∧ Below w.heap.size w w'
theorem retdm_mk {w w' : World} {q r : Nat} {A A' : Option Addr} {n n' c c' : Nat} (hb : Below w.heap.size w w') (hn : (digs B64 q).length = n) (hn' : (digs B64 r).length = n') (h1 : n ≤ c) (h2 : n' ≤ c')
    (h3 : Rd w' .u64 A (digs B64 q)) (h4 : Rd w' .u64 A' (digs B64 r)) : RetDM w q r (.returned (.tuple #[.slice A n c, .slice A' n' c'])) w' := by
  subst hn; subst hn'; exact ⟨A, c, A', c', rfl, h1, h2, h3, h4, hb⟩

theorem norm_shift {x : Nat} (hx : x ≠ 0) (hB : x < B64) : blen x ≤ 64 ∧ 0 < blen x ∧ 2 ^ 63 ≤ x * 2 ^ (64 - blen x) ∧ x * 2 ^ (64 - blen x) < B64 := by
  have h1 := blen_le_of_lt (k := 64) hB
  have h2 := blen_pos hx
  have h3 := blen_le x hx
  have h4 := lt_blen x
  refine ⟨h1, h2, ?_, ?_⟩
  · have : 2 ^ 63 = 2 ^ (blen x - 1) * 2 ^ (64 - blen x) := by rw [← Nat.pow_add]; congr 1; omega
    rw [this]; exact Nat.mul_le_mul_right _ h3
  · have : B64 = 2 ^ blen x * 2 ^ (64 - blen x) := by rw [← Nat.pow_add]; unfold B64; congr 1; omega
    rw [this]; exact Nat.mul_lt_mul_of_pos_right h4 (Nat.pow_pos (by omega))


theorem app_nil (A : Option Addr) (c : Nat) (m : List Nat) (w : World) (hr : Rd w .u64 A m) (hlen : m.length ≤ lim) :
    ∃ A' c' w', (Builtin.append_ #[104, 104] 104 #[.slice none 0 0, .slice A m.length c]).run Try.prog w = .ok (.slice A' m.length c') w' ∧ m.length ≤ c' ∧ Rd w' .u64 A' m ∧ Below w.heap.size w w' := by
  unfold lim at hlen
  obtain ⟨v', w', hrun, hown, hg, _⟩ := app_n (P := Try.prog) (ty := 104) (c := c) Try.underlying104 Try.info_u64 (by omega) (Own.nil w w.heap.size .u64 22) hr (by simp; omega) (Nat.le_refl _)
  rw [List.nil_append] at hown
  obtain ⟨A', c', rfl, hc, hrd⟩ := hown.slice
  exact ⟨A', c', w', hrun, hc, hrd, ⟨hg.os, hg.tape, hg.output, hg.size, fun i hi => hg.block i hi (by simp [Value.ownBlock])⟩⟩

set_option maxRecDepth 100000 in
set_option maxHeartbeats 1600000 in
theorem divmod_small (A A' : Option Addr) (c c' : Nat) (l m : List Nat) (w : World) (hr : Rd w .u64 A l) (hc : l.length ≤ c) (hlim : l.length ≤ lim) (hok : Ok B64 l)
    (hr' : Rd w .u64 A' m) (hc' : m.length ≤ c') (hlim' : m.length ≤ lim) (hok' : Ok B64 m) (hlt : (digs B64 (val B64 l)).length < (digs B64 (val B64 m)).length) :
    Calls Try.prog 69 #[.slice A l.length c, .slice A' m.length c'] w (RetDM w (val B64 l / val B64 m) (val B64 l % val B64 m)) := by
  have hab := cmp_len hlt
  rw [Nat.div_eq_of_lt hab, Nat.mod_eq_of_lt hab]
  go_enter Try.func69, Try.ntmps69
  go_wp2_with fail
  refine (trim_any A c l w hr hc hlim hok).mono ?_
  rintro e w1 ⟨A1, c1, rfl, hc1, hr1, hb1⟩
  go_wp2_with fail
  refine (trim_any A' c' m w1 (hr'.below hb1) hc' hlim' hok').mono ?_
  rintro e w2 ⟨A2, c2, rfl, hc2, hr2, hb2⟩
  have hr1 := hr1.below hb2
  have hb := below_next hb1 hb2
  have l1 := dlen hok
  have hd : decide ((digs B64 (val B64 l)).length < (digs B64 (val B64 m)).length) = true := by simp [hlt]
  obtain ⟨A3, c3, w3, hrun, hc3, hr3, hb3⟩ := app_nil A1 c1 _ w2 hr1 (Nat.le_trans l1 hlim)
  have hbb := below_next hb hb3
  have h5 := trim_any A3 c3 _ w3 hr3 hc3 (Nat.le_trans l1 hlim) (digs_ok B64_ge _)
  rw [val_digs B64_ge] at h5
  have H5 := hide h5
  have Hrun := hide hrun
  clear h5 hb1 hb2 hr hr' hb3 hr2 hr3 hr1 hrun
  go_wp2_with (at_builtin; refine wpList_app rfl _ _ _ rfl rfl rfl Hrun.out ?_)
  refine H5.out.mono ?_
  rintro e w4 ⟨A4, c4, rfl, hc4, hr4, hb4⟩
  go_wp2_with fail
  go_ret2
  exact retdm_mk (below_next hbb hb4) (by rw [digs_zero]; rfl) rfl (Nat.le_refl _) hc4 (by rw [digs_zero]; exact Rd.nil _ _ _) hr4

end Go.Proofs.Ytincemkjdgbnnaa

set_option linter.unusedVariables false
set_option linter.unusedSimpArgs false
namespace Go.Proofs.Ytincemkjdgbnnaa
open Go.RowKit Lm

theorem shifted_n (A : Option Addr) (c : Nat) (l : List Nat) (s n : Nat) (w : World) (hr : Rd w .u64 A l) (hc : l.length ≤ c) (hok : Ok B64 l)
    (hs : s < 64) (hln : l.length ≤ n) (hn : n ≤ lim) (hn0 : 0 < n) (hfit : val B64 l * 2 ^ s < B64 ^ n) :
    Calls Try.prog 116 #[.slice A l.length c, .int .i64 (s : Int), .int .i64 (n : Int)] w fun e w' =>
      ∃ b, e = .returned (.slice (some ⟨b, 0, none⟩) n n) ∧ Blk w' b 22 .u64 (fix B64 n (val B64 l * 2 ^ s)) ∧ w.heap.size ≤ b ∧ Below w.heap.size w w' :=
  (shifted_any A c l s n w hr hc hok hs hln hn hn0 hfit).mono fun e w' ⟨b, he, h⟩ => ⟨b, by rw [he, fix_length], h⟩

theorem step_fix (bu j c bv c' p n W V : Nat) (w : World) (hL : Blk w bu 22 .u64 (fix B64 (p + 1) W)) (hfit : j + (n + 2) ≤ p + 1) (hc : n + 2 ≤ c)
    (hM : Blk w bv 22 .u64 (fix B64 (n + 1) V)) (hVB : V < B64 ^ (n + 1)) (hne : bv ≠ bu) (hn : n < lim) (htop : 2 ^ 63 * B64 ^ n ≤ V) (hW : W < V * (B64 ^ j * B64)) :
    Calls Try.prog 117 #[.slice (some ⟨bu, j, none⟩) (n + 2) c, .slice (some ⟨bv, 0, none⟩) (n + 1) c'] w fun e w' =>
      e = .returned (.int .u64 ((W / (V * B64 ^ j) : Nat) : Int)) ∧
      Blk w' bu 22 .u64 (fix B64 (p + 1) (W % (V * B64 ^ j))) ∧ Only w w' bu := by
  have hPp : 0 < B64 ^ j := Nat.pow_pos B64_pos
  have hV0 : 0 < V := by
    have : 0 < 2 ^ 63 * B64 ^ n := Nat.mul_pos (by omega) (Nat.pow_pos B64_pos)
    omega
  obtain ⟨g1, g2, g3, g4⟩ := long_step hV0 hPp hW
  have hWb : W < B64 ^ (j + (n + 2)) := by
    have : V * (B64 ^ j * B64) ≤ B64 ^ (n + 1) * (B64 ^ j * B64) := Nat.mul_le_mul_right _ (Nat.le_of_lt hVB)
    have e : B64 ^ (n + 1) * (B64 ^ j * B64) = B64 ^ (j + (n + 2)) := by rw [← Nat.pow_succ, ← Nat.pow_add]; congr 1; omega
    omega
  have hv := val_mid_digits (m := p + 1) hfit hWb
  have hnth : nth (fix B64 (n + 1) V) n = V / B64 ^ n := by
    rw [nth_fix (by omega), Nat.mod_eq_of_lt]
    rw [Nat.div_lt_iff_lt_mul (Nat.pow_pos B64_pos), ← Nat.pow_succ']; exact hVB
  have h := step_any bu j c bv 0 c' 22 (fix B64 (p + 1) W) (fix B64 (n + 1) V) n w hL (fix_ok B64_pos _ _) (by rw [fix_length]; exact hfit) hc hM.row0 (fix_ok B64_pos _ _) (fix_length _ _) hne hn
    (by rw [hnth]; exact (Nat.le_div_iff_mul_le (Nat.pow_pos B64_pos)).2 htop) (by rw [hv, val_fix_of_lt hVB]; exact g1)
  rw [hv, val_fix_of_lt hVB, g3, mid_fix hfit (Nat.lt_trans (Nat.mod_lt _ hV0) (Nat.lt_of_lt_of_le hVB (Nat.pow_le_pow_right B64_pos (by omega)))) hWb, g2] at h
  exact h

theorem up_set' {d Q j : Nat} (hj : j < d) : (up (j + 1) (fix B64 d 0) (fix B64 d Q)).set j (Q / B64 ^ j % B64) = up j (fix B64 d 0) (fix B64 d Q) := by
  rw [← nth_fix hj, up_set (by rw [fix_length, fix_length]) (by rw [fix_length]; exact hj)]

theorem mod_pow_succ (R i : Nat) : R % B64 ^ (i + 1) = R % B64 ^ i + B64 ^ i * (R / B64 ^ i % B64) := by rw [Nat.pow_succ, Nat.mod_mul]

/-- the world of the long division: u, v, the quotient. -/
structure DW (w0 wr : World) (bu bv bq p n d s A V j : Nat) : Prop where
  u : Blk wr bu 22 .u64 (fix B64 (p + 1) (A % (V * B64 ^ j)))
  v : Blk wr bv 22 .u64 (fix B64 (n + 1) V)
  q : Blk wr bq 22 .u64 (up j (fix B64 d 0) (fix B64 d (A / V)))
  below : Below w0.heap.size w0 wr

set_option maxRecDepth 100000 in
set_option maxHeartbeats 3200000 in
theorem divmod_big (A A' : Option Addr) (c c' : Nat) (l m : List Nat) (w : World) (hr : Rd w .u64 A l) (hc : l.length ≤ c) (hlim : l.length < lim) (hok : Ok B64 l)
    (hr' : Rd w .u64 A' m) (hc' : m.length ≤ c') (hlim' : m.length < lim) (hok' : Ok B64 m) (hb0 : val B64 m ≠ 0) (hle : (digs B64 (val B64 m)).length ≤ (digs B64 (val B64 l)).length) :
    Calls Try.prog 69 #[.slice A l.length c, .slice A' m.length c'] w (RetDM w (val B64 l / val B64 m) (val B64 l % val B64 m)) := by
  go_enter Try.func69, Try.ntmps69
  go_wp2_with fail
  refine (trim_any A c l w hr hc (by omega) hok).mono ?_
  rintro e w1 ⟨A1, c1, rfl, hc1, hr1, hb1⟩
  go_wp2_with fail
  refine (trim_any A' c' m w1 (hr'.below hb1) hc' (by omega) hok').mono ?_
  rintro e w2 ⟨A2, c2, rfl, hc2, hr2, hb2⟩
  have hr1 := hr1.below hb2
  have hb := below_next hb1 hb2
  clear hb1 hb2 hr hr'
  have l1 := dlen hok
  have l2 := dlen hok'
  unfold lim at hlim hlim'
  obtain ⟨a, ha⟩ : ∃ a, a = val B64 l := ⟨_, rfl⟩
  obtain ⟨b, hbv⟩ : ∃ b, b = val B64 m := ⟨_, rfl⟩
  have HA := hide ha
  have HB := hide hbv
  rw [← ha] at hc1 hr1 l1 hle ⊢
  rw [← hbv] at hc2 hr2 l2 hle hb0 ⊢
  clear ha hbv
  obtain ⟨n, hn⟩ : ∃ n, (digs B64 b).length = n + 1 := by
    refine ⟨(digs B64 b).length - 1, ?_⟩
    have : (digs B64 b).length ≠ 0 := fun h => hb0 ((digs_eq_nil B64_ge).1 (List.length_eq_zero_iff.1 h))
    omega
  have hLa := digs_lt B64_ge a
  have hva := val_digs B64_ge a
  have hvb := val_digs B64_ge b
  have okL := digs_ok B64_ge a
  have okM := digs_ok B64_ge b
  have htop : nth (digs B64 b) n ≠ 0 := digs_top_ne B64_ge hn
  have HMt := hide (digs_lt B64_ge b)
  rw [hn] at HMt
  have hbl : blen b = 64 * n + blen (nth (digs B64 b) n) := blen_digs (k := 64) (by omega) hn
  have htB : nth (digs B64 b) n < B64 := Ok.getD B64_pos okM _
  obtain ⟨p, hp⟩ : ∃ p, (digs B64 a).length = p := ⟨_, rfl⟩
  generalize digs B64 a = L at *
  generalize digs B64 b = M at *
  rw [hp] at hc1 l1 hle hLa ⊢
  rw [hn] at hc2 l2 hle ⊢
  obtain ⟨b2, off2, rfl, hrow2⟩ := hr2 (by rw [hn]; omega)
  have hcell := hrow2 n (by rw [hn]; omega)
  generalize nth M n = t at *
  obtain ⟨n1, n2, n3, n4⟩ := norm_shift htop htB
  obtain ⟨s, hs⟩ : ∃ s, s = 64 - blen t := ⟨_, rfl⟩
  have hs64 : s < 64 := by omega
  have hsi : (64 : Int) - (blen t : Int) = (s : Int) := by omega
  have hbb1 := lt_blen b
  have hbb2 := blen_le b hb0
  have eB : ∀ k, B64 ^ k = 2 ^ (64 * k) := fun k => by rw [Nat.pow_mul]; rfl
  have hVB : b * 2 ^ s < B64 ^ (n + 1) := by
    rw [eB, show 64 * (n + 1) = blen b + s by omega, Nat.pow_add]
    exact Nat.mul_lt_mul_of_pos_right hbb1 (Nat.pow_pos (by omega))
  have hVt : 2 ^ 63 * B64 ^ n ≤ b * 2 ^ s := by
    rw [eB, ← Nat.pow_add, show 63 + 64 * n = (blen b - 1) + s by omega, Nat.pow_add]
    exact Nat.mul_le_mul_right _ hbb2
  have h2s : 2 ^ s ≤ 2 ^ 63 := Nat.pow_le_pow_right (by omega) (by omega)
  have hAB : a * 2 ^ s < B64 ^ (p + 1) := by
    rw [Nat.pow_succ]
    exact Nat.mul_lt_mul'' hLa (Nat.lt_of_le_of_lt h2s (by decide))
  obtain ⟨d, hd⟩ : ∃ d, d = p - (n + 1) + 1 := ⟨_, rfl⟩
  have hAV : a * 2 ^ s < b * 2 ^ s * B64 ^ d := by
    have e : 2 ^ 63 * B64 ^ n * B64 ^ d = 2 ^ 63 * B64 ^ p := by rw [Nat.mul_assoc, ← Nat.pow_add]; congr 2; omega
    have h1 : 2 ^ 63 * B64 ^ p ≤ b * 2 ^ s * B64 ^ d := by rw [← e]; exact Nat.mul_le_mul_right _ hVt
    have h2 : a * 2 ^ s < B64 ^ p * 2 ^ 63 := by
      have h3 : a * 2 ^ s ≤ a * 2 ^ 63 := Nat.mul_le_mul_left _ h2s
      have h4 : a * 2 ^ 63 < B64 ^ p * 2 ^ 63 := Nat.mul_lt_mul_of_pos_right hLa (by omega)
      omega
    have h5 : a * 2 ^ s < 2 ^ 63 * B64 ^ p := by rw [Nat.mul_comm (2 ^ 63)]; exact h2
    omega
  have HD := hide hd
  have HS := hide hs
  have HV := hide (show ∀ A V : Nat, A = a * 2 ^ s → V = b * 2 ^ s → A / V = a / b ∧ A % V / 2 ^ s = a % b ∧ 0 < V from fun A V h1 h2 => by
    subst h1; subst h2
    have hp : 0 < 2 ^ s := Nat.pow_pos (by omega)
    exact ⟨Nat.mul_div_mul_right _ _ hp, by rw [Nat.mul_mod_mul_right, Nat.mul_div_cancel _ hp], Nat.mul_pos (by omega) hp⟩)
  have hlz := hide (lz64_any t w2 htB)
  rw [hsi] at hlz
  have e1 : IntKind.i64.wrap ((p : Int) - ((n : Int) + 1) + 1) = (d : Int) := by rw [wrap_in] <;> omega
  have hd0 : decide (p < n + 1) = false := by simp; omega
  have hd1 : decide ((p : Int) < (n : Int) + 1) = false := by simp; omega
  have Hva := hide hva
  have Hvb := hide hvb
  have Hp := hide hp
  have Hn := hide hn
  have HhV := hide hVB
  have HhA := hide hAB
  have HAV := hide hAV
  have HhVt := hide hVt
  have Hle := hide hle
  have Hlz2 := hlz
  have i1 : (n : Int) + 1 - 1 = (n : Int) := by omega
  clear hd hs hsi hbb1 hbb2 hbl eB hVB hAB hAV h2s hva hvb hp hn n1 n2 n3 n4 hLa hVt hrow2 htop
  go_wp2_with fail
  refine hlz.out.mono ?_
  rintro e w2' ⟨rfl, rfl⟩
  go_wp2_with fail
  have hsv := shifted_n _ c2 M s (n + 1) w2' hr2 (by rw [Hn.out]; exact hc2) okM hs64 (by rw [Hn.out]; exact Nat.le_refl _) (by unfold lim; omega) (by omega) (by rw [Hvb.out]; exact HhV.out)
  rw [show ((n + 1 : Nat) : Int) = (n : Int) + 1 from rfl, Hn.out, Hvb.out] at hsv
  refine hsv.mono ?_
  clear hsv
  rintro e w3 ⟨bv, rfl, hbv, hbv2, hb3⟩
  have hr1 := hr1.below hb3
  have hb := below_next hb hb3
  clear hb3 hr2
  go_wp2_with fail
  have hsu := shifted_n _ c1 L s (p + 1) w3 hr1 (by rw [Hp.out]; exact hc1) okL hs64 (by rw [Hp.out]; omega) (by unfold lim; omega) (by omega) (by rw [Hva.out]; exact HhA.out)
  rw [show ((p + 1 : Nat) : Int) = (p : Int) + 1 from rfl, Hp.out, Hva.out] at hsu
  refine hsu.mono ?_
  clear hsu
  rintro e w4 ⟨bu, rfl, hbu, hbu2, hb4⟩
  have hne1 : bv ≠ bu := by have := hbv.lt; omega
  have hgu : w.heap.size ≤ bu := Nat.le_trans hb.size hbu2
  have hbv := hbv.next hb4
  have hb := below_next hb hb4
  have hmk := mk_u64 (d : Int) d rfl (by have := HD.out; unfold lim; omega)
  have hsz := hb.size
  have hbul := hbu.lt
  have hbvl := hbv.lt
  have hbq := Blk.new w4 .u64 22 (List.replicate d 0)
  have hbu' := hbu.alloc (nblk .u64 22 (List.replicate d 0))
  have hbv' := hbv.alloc (nblk .u64 22 (List.replicate d 0))
  have hb' := below_alloc hb (nblk .u64 22 (List.replicate d 0))
  obtain ⟨bq, hbqe⟩ : ∃ q, q = w4.heap.size := ⟨_, rfl⟩
  have hqu : bq ≠ bu := by omega
  have hqv : bq ≠ bv := by omega
  obtain ⟨AA, hAA⟩ : ∃ A, A = a * 2 ^ s := ⟨_, rfl⟩
  obtain ⟨VV, hVV⟩ : ∃ V, V = b * 2 ^ s := ⟨_, rfl⟩
  obtain ⟨hq1, hq2, hV0⟩ := HV.out AA VV hAA hVV
  have hdw : DW w (w4.alloc (nblk .u64 22 (List.replicate d 0))) bu bv bq p n d s AA VV d := by
    refine ⟨?_, by rw [hVV]; exact hbv', ?_, hb'⟩
    · rw [hAA, hVV, Nat.mod_eq_of_lt HAV.out]; exact hbu'
    · have hu := up_full (F := fix B64 d 0) (G := fix B64 d (AA / VV)) (by rw [fix_length, fix_length])
      rw [fix_length] at hu
      rw [hu, ← zeros_eq, hbqe]; exact hbq
  have HhV := HhV.out
  have HhVt := HhVt.out
  rw [← hVV] at HhV HhVt
  have HhVB := hide HhV
  have HhVtt := hide HhVt
  have hubig : bu < w4.heap.size := hbul
  have hgq : w.heap.size ≤ bq := by omega
  have Hq1 := hide hq1
  have Hq2 := hide hq2
  have Hdw := hide hdw
  have HAe := hide hAA
  have HVe := hide hVV
  clear hdw hbq hbu' hbv' hb' hq1 hq2 hAA hVV hbu hbv HhV HhVt hb hr1 hbul hbvl hubig
  go_wp2_with fail
  rw [← hbqe]
  have Hbqe := hide hbqe
  clear hbqe
  go_loopw [11] (fun j wr => ∃ k : Nat, k ≤ d ∧ j = .int .i64 ((k : Int) - 1) ∧ DW w wr bu bv bq p n d s AA VV k) (fun j _ => (intOf j + 1).toNat)
  case atStart => exact ⟨d, Nat.le_refl _, val_int (by have := HD.out; omega), by first | exact Hdw.out | (rw [Hbqe.out] at Hdw; exact Hdw.out)⟩
  case round =>
    obtain ⟨k, hk, rfl, hdw⟩ := hrel
    clear Hdw
    rcases k with _ | k
    · have Hdw3 := hide hdw
      have d0 : decide ((0 : Int) ≤ ((0 : Nat) : Int) - 1) = false := by decide
      have hmk2 := mk_u64 ((n : Int) + 1) (n + 1) (by omega) (by unfold lim; omega)
      clear hdw
      have hu0 := hide (show Blk wr bu 22 .u64 (fix B64 (p + 1) (AA % VV)) by have := Hdw3.out.u; rwa [Nat.pow_zero, Nat.mul_one] at this)
      have hq0 := hide (show Blk wr bq 22 .u64 (fix B64 d (a / b)) by have := Hdw3.out.q; rwa [up_zero, Hq1.out] at this)
      have hb0 := hide Hdw3.out.below
      have hrq : bq ≠ wr.heap.size := by have := hq0.out.lt; omega
      have hru : bu ≠ wr.heap.size := by have := hu0.out.lt; omega
      have hgr : w.heap.size ≤ wr.heap.size := hb0.out.size
      clear Hdw3
      obtain ⟨br, hbr⟩ : ∃ r, r = wr.heap.size := ⟨_, rfl⟩
      have hw5 : Hid (Blk (wr.alloc (nblk .u64 22 (List.replicate (n + 1) 0))) br 22 .u64 (List.replicate (n + 1) 0) ∧ Blk (wr.alloc (nblk .u64 22 (List.replicate (n + 1) 0))) bu 22 .u64 (fix B64 (p + 1) (AA % VV)) ∧
        Blk (wr.alloc (nblk .u64 22 (List.replicate (n + 1) 0))) bq 22 .u64 (fix B64 d (a / b)) ∧ Below w.heap.size w (wr.alloc (nblk .u64 22 (List.replicate (n + 1) 0)))) :=
        ⟨by rw [hbr]; exact Blk.new wr .u64 22 _, hu0.out.alloc _, hq0.out.alloc _, below_alloc hb0.out _⟩
      rw [← hbr] at hrq hru hgr
      go_wp2_with fail
      rw [← hbr]
      clear hu0 hq0 hb0 hbr hmk2
      generalize wr.alloc (nblk .u64 22 (List.replicate (n + 1) 0)) = w5 at *
      obtain ⟨R, hR⟩ : ∃ R, R = AA % VV / 2 ^ s := ⟨_, rfl⟩
      have HR := hide hR
      clear hR
      have hple : n + 1 ≤ p := hle
      go_loopw [12, 69] (fun _ k wx => ∃ i : Nat, i ≤ n + 1 ∧ k = .int .i64 (i : Int) ∧ Hid (Blk wx bu 22 .u64 (fix B64 (p + 1) (AA % VV))) ∧ Hid (Blk wx bq 22 .u64 (fix B64 d (a / b))) ∧
        Blk wx br 22 .u64 (ch B64 i (R % B64 ^ i) (List.replicate (n + 1) 0)) ∧ Hid (Below w.heap.size w wx)) (fun _ k _ => n + 1 - (intOf k).toNat)
      case atStart => exact ⟨0, Nat.zero_le _, rfl, hw5.out.2.1, hw5.out.2.2.1, by rw [ch_zero]; exact hw5.out.1, hw5.out.2.2.2⟩
      case round =>
        obtain ⟨i, hi, rfl, hu, hq, hr, hbw⟩ := hrel
        clear hw5
        have hlen : (ch B64 i (R % B64 ^ i) (List.replicate (n + 1) 0)).length = n + 1 := by rw [ch_length (by simp; omega)]; simp
        have hRm : R % B64 ^ i < B64 ^ i := Nat.mod_lt _ (Nat.pow_pos B64_pos)
        by_cases hlt : i < n + 1
        · have hcu := hu.out.cell (i := i) (by rw [fix_length]; omega)
          have hcu1 := hu.out.cell (i := i + 1) (by rw [fix_length]; omega)
          rw [nth_fix (by omega)] at hcu hcu1
          have Hny := hide (show nth (fix B64 (p + 1) (AA % VV)) (i + 1) = AA % VV / B64 ^ (i + 1) % B64 from nth_fix (by omega))
          have hcr := hr.cell (i := i) (by rw [hlen]; exact hlt)
          have hfr := hr.frozen i
          have hxB : AA % VV / B64 ^ i % B64 < B64 := Nat.mod_lt _ B64_pos
          have hyB : AA % VV / B64 ^ (i + 1) % B64 < B64 := Nat.mod_lt _ B64_pos
          rcases Nat.eq_zero_or_pos s with hs0 | hs0
          · subst hs0
            have hdig : AA % VV / B64 ^ i % B64 / 2 ^ 0 = R / B64 ^ i % B64 := by rw [HR.out]; exact (shr_digit0).symm
            rw [Nat.pow_zero, Nat.div_one] at hdig
            have H2 := hide (show Blk (wr.setCell ⟨br, i, none⟩ (.int .u64 ((AA % VV / B64 ^ i % B64 : Nat) : Int))) br 22 .u64 (ch B64 (i + 1) (R % B64 ^ (i + 1)) (List.replicate (n + 1) 0)) by
              have h1 := hr.set_ i (E := _) (z := AA % VV / B64 ^ i % B64) rfl
              rw [ch_set (by simp; omega) hRm hxB, hdig, ← mod_pow_succ, ← hdig] at h1
              exact h1)
            have hu2 := hide (hu.out.far (p := ⟨br, i, none⟩) hru (.int .u64 ((AA % VV / B64 ^ i % B64 : Nat) : Int)))
            have hq2 := hide (hq.out.far (p := ⟨br, i, none⟩) hrq (.int .u64 ((AA % VV / B64 ^ i % B64 : Nat) : Int)))
            have hb2 := hide (hbw.out.setCell (p := ⟨br, i, none⟩) hgr (.int .u64 ((AA % VV / B64 ^ i % B64 : Nat) : Int)))
            clear hr hdig hcu1 hyB
            generalize AA % VV / B64 ^ i % B64 = x at *
            go_wp2_with fail
            exact ⟨⟨i + 1, by omega, by simp, hu2, hq2, H2.out, hb2⟩, by simp [intOf]; omega⟩
          · have hdig := shr_digit (W := AA % VV) (i := i) hs64 hs0
            rw [← HR.out] at hdig
            have hx2 : AA % VV / B64 ^ i % B64 / 2 ^ s < B64 := Nat.lt_of_le_of_lt (Nat.div_le_self _ _) hxB
            have hd0' : decide ((0 : Int) < (s : Int)) = true := by simp; omega
            have hdB : R / B64 ^ i % B64 < B64 := Nat.mod_lt _ B64_pos
            have hch := ch_set (L := List.replicate (n + 1) 0) (by simp; omega) hRm hdB
            rw [← mod_pow_succ] at hch
            have Hch := hide hch
            have Hdig := hide hdig
            have Hr := hide hr
            clear hr hdig hch hdB
            have Hlen := hide hlen
            clear hlen
            generalize R / B64 ^ i % B64 = dg at *
            generalize AA % VV / B64 ^ i % B64 = x at *
            generalize AA % VV / B64 ^ (i + 1) % B64 = y at *
            obtain ⟨z1, hz1⟩ : ∃ z, z = x / 2 ^ s := ⟨_, rfl⟩
            have ez : (x : Int) / 2 ^ s = (z1 : Int) := by rw [hz1]; simp
            rw [← hz1] at Hdig hx2
            clear hz1
            have HA1 := hide (Hr.out.set_ i (E := (z1 : Int)) (z := z1) rfl)
            have hu2 := hide (hu.out.far (p := ⟨br, i, none⟩) hru (.int .u64 (z1 : Int)))
            have hq2 := hide (hq.out.far (p := ⟨br, i, none⟩) hrq (.int .u64 (z1 : Int)))
            have hb2 := hide (hbw.out.setCell (p := ⟨br, i, none⟩) hgr (.int .u64 (z1 : Int)))
            clear hu hq hbw
            go_wp2_with fail
            generalize wr.setCell ⟨br, i, none⟩ (.int .u64 (z1 : Int)) = w7 at *
            have hc1' := HA1.out.cell (i := i) (by rw [List.length_set, Hlen.out]; exact hlt)
            rw [nth_set_self (by rw [Hlen.out]; exact hlt)] at hc1'
            have hf1' := HA1.out.frozen i
            have hc2' := hu2.out.cell (i := i + 1) (by rw [fix_length]; omega)
            rw [Hny.out] at hc2'
            clear hcu hcu1 hcr hfr ez
            obtain ⟨u, hu'⟩ : ∃ u, u = 64 - s := ⟨_, rfl⟩
            have hui : (64 : Int) - (s : Int) = (u : Int) := by omega
            rw [← hu'] at Hdig
            have iw1 := wrap_in (u : Int) (by omega) (by omega)
            have iw2 := wrap_in ((i : Int) + 1) (by omega) (by omega)
            have Hu' := hide hu'
            clear hu'
            have iw3 : ((i : Int) + 1).toNat = i + 1 := by omega
            have iw4 : (i : Int) + 1 < (p : Int) + 1 := by omega
            have iw5 : (0 : Int) ≤ (i : Int) + 1 := by omega
            go_region
            go_wp2_with fail
            have hE : bits .or .u64 (z1 : Int) (IntKind.u64.wrap ((y : Int) * 2 ^ u)) = ((z1 ||| (y * 2 ^ u % B64) : Nat) : Int) := by
              rw [← or_u64 hx2 (Nat.mod_lt _ B64_pos)]
              congr 1
            have hB3 := Blk.drew (HA1.out.set_ i hE)
            rw [List.set_set, ← Hdig.out, Hch.out] at hB3
            exact ⟨⟨i + 1, by omega, by simp, (hu2.out.far (p := ⟨br, i, none⟩) hru _).drew, (hq2.out.far (p := ⟨br, i, none⟩) hrq _).drew, hB3, below_drew (hb2.out.setCell (p := ⟨br, i, none⟩) hgr _)⟩, by simp [intOf]; omega⟩
        · obtain rfl : i = n + 1 := by omega
          have hRb : R = a % b := by rw [HR.out, Hq2.out]
          have hab : a % b < B64 ^ (n + 1) := by
            have h1 := Nat.mod_lt a (show 0 < b by omega)
            have h2 := HMt.out
            omega
          have haq : a / b < B64 ^ d := by
            have h4 : AA / VV < B64 ^ d := by rw [HAe.out, HVe.out, Nat.div_lt_iff_lt_mul (by rw [← HVe.out]; exact hV0), Nat.mul_comm (B64 ^ d)]; exact HAV.out
            rwa [Hq1.out] at h4
          rw [hRb, Nat.mod_eq_of_lt hab, ch_full' (by simp)] at hr
          have ht1 := trim_any (some ⟨bq, 0, none⟩) d _ wr (fun _ => ⟨_, _, rfl, hq.out.row0⟩) (by rw [fix_length]; exact Nat.le_refl _) (by rw [fix_length]; have := HD.out; unfold lim; omega) (fix_ok B64_pos _ _)
          rw [fix_length, val_fix_of_lt haq] at ht1
          have Ht1 := hide ht1
          have Hr2 := hide hr
          clear ht1 hr
          go_wp2_with fail
          refine Ht1.out.mono ?_
          rintro e w8 ⟨A8, c8, rfl, hc8, hr8, hb8⟩
          go_wp2_with fail
          have hr9 := Hr2.out.next hb8
          have ht2 := trim_any (some ⟨br, 0, none⟩) (n + 1) _ w8 (fun _ => ⟨_, _, rfl, hr9.row0⟩) (by rw [fix_length]; exact Nat.le_refl _) (by rw [fix_length]; unfold lim; omega) (fix_ok B64_pos _ _)
          rw [fix_length, val_fix_of_lt hab] at ht2
          refine ht2.mono ?_
          rintro e w9 ⟨A9, c9, rfl, hc9, hr9', hb9⟩
          go_wp2_with fail
          go_ret2
          rw [← HA.out, ← HB.out]
          exact retdm_mk (below_next (below_next hbw.out hb8) hb9) rfl rfl hc8 hc9 (hr8.below hb9) hr9'
    · rw [show ((k + 1 : Nat) : Int) - 1 = (k : Int) from by omega]
      have hkd := HD.out
      have hWlt : AA % (VV * B64 ^ (k + 1)) < VV * (B64 ^ k * B64) := by
        rw [Nat.pow_succ]; exact Nat.mod_lt _ (Nat.mul_pos hV0 (Nat.mul_pos (Nat.pow_pos B64_pos) B64_pos))
      have hst := step_fix bu k (p + 1 - k) bv (n + 1) p n _ VV wr hdw.u (by omega) (by omega) hdw.v HhVB.out hne1 (by unfold lim; omega) HhVtt.out hWlt
      have hqd : AA % (VV * B64 ^ (k + 1)) / (VV * B64 ^ k) = AA / VV / B64 ^ k % B64 := by
        rw [Nat.pow_succ, ← Nat.mul_assoc, Nat.mod_mul_right_div_self, Nat.div_div_eq_div_mul]
      have hwd : AA % (VV * B64 ^ (k + 1)) % (VV * B64 ^ k) = AA % (VV * B64 ^ k) := by
        rw [Nat.pow_succ, ← Nat.mul_assoc]; exact Nat.mod_mul_right_mod _ _ _
      rw [hqd, hwd] at hst
      have Hst := hide hst
      have Hdw2 := hide hdw
      clear hst hdw hqd hwd hWlt
      have j0 : (k : Int) + ((n : Int) + 1) + 1 ≤ (p : Int) + 1 := by omega
      have j2 : k + n + 1 ≤ p := by omega
      clear hkd
      have j1 : ((k : Int) + ((n : Int) + 1) + 1).toNat = k + n + 2 := by omega
      go_wp2_with fail
      rw [show k + n + 2 - k = n + 2 by omega]
      refine Hst.out.mono ?_
      rintro e w6 ⟨rfl, hu6, ho6⟩
      have hq6 := ho6.blk Hdw2.out.q hqu
      have hv6 := ho6.blk Hdw2.out.v hne1
      have hb6 : Below w.heap.size w w6 := Only.below Hdw2.out.below ho6 hgu
      have hup : (up (k + 1) (fix B64 d 0) (fix B64 d (AA / VV))).length = d := by rw [up_length (by rw [fix_length, fix_length]), fix_length]
      have hcq := hq6.cell (i := k) (by rw [hup]; omega)
      have hfq := hq6.frozen k
      have HQ := hide (show Blk (w6.setCell ⟨bq, k, none⟩ (.int .u64 ((AA / VV / B64 ^ k % B64 : Nat) : Int))) bq 22 .u64 (up k (fix B64 d 0) (fix B64 d (AA / VV))) by
        have h1 := hq6.set_ k (E := _) (z := AA / VV / B64 ^ k % B64) rfl
        rw [up_set' (by omega)] at h1
        exact h1)
      have HU := hide (hu6.far (p := ⟨bq, k, none⟩) (fun h => hqu h.symm) (.int .u64 ((AA / VV / B64 ^ k % B64 : Nat) : Int)))
      have HV2 := hide (hv6.far (p := ⟨bq, k, none⟩) (fun h => hqv h.symm) (.int .u64 ((AA / VV / B64 ^ k % B64 : Nat) : Int)))
      have HB6 := hide (hb6.setCell (p := ⟨bq, k, none⟩) hgq (.int .u64 ((AA / VV / B64 ^ k % B64 : Nat) : Int)))
      clear hu6 ho6 hq6 hv6 hb6 Hst hup
      generalize AA / VV / B64 ^ k % B64 = qk at *
      go_wp2_with fail
      exact ⟨⟨k, by omega, rfl, ⟨HU.out, HV2.out, HQ.out, HB6.out⟩⟩, by simp [intOf]⟩

theorem divmod_any (A A' : Option Addr) (c c' : Nat) (l m : List Nat) (w : World) (hr : Rd w .u64 A l) (hc : l.length ≤ c) (hlim : l.length < lim) (hok : Ok B64 l)
    (hr' : Rd w .u64 A' m) (hc' : m.length ≤ c') (hlim' : m.length < lim) (hok' : Ok B64 m) (hb0 : val B64 m ≠ 0) :
    Calls Try.prog 69 #[.slice A l.length c, .slice A' m.length c'] w (RetDM w (val B64 l / val B64 m) (val B64 l % val B64 m)) := by
  rcases Nat.lt_or_ge (digs B64 (val B64 l)).length (digs B64 (val B64 m)).length with h | h
  · exact divmod_small A A' c c' l m w hr hc (by omega) hok hr' hc' (by omega) hok' h
  · exact divmod_big A A' c c' l m w hr hc hlim hok hr' hc' hlim' hok' hb0 h

/-- the half of a number, what is left by a division. -/
theorem half_any (A : Option Addr) (c : Nat) (l : List Nat) (w : World) (hr : Rd w .u64 A l) (hc : l.length ≤ c) (hlim : l.length < lim) (hok : Ok B64 l) :
    Calls Try.prog 125 #[.slice A l.length c] w (RetSl w .u64 (digs B64 (val B64 l / 2))) := by
  go_enter Try.func125, Try.ntmps125
  go_wp2_with fail
  have hblk : Blk (w.alloc (.cells #[.int .u64 2] 22)) w.heap.size 22 .u64 [2] := Blk.new w .u64 22 [2]
  have hv : val B64 [2] = 2 := by simp [val]
  have hdm := divmod_any A (some ⟨w.heap.size, 0, none⟩) c 1 l [2] _ (hr.below ((Below.refl _ _).alloc (Nat.le_refl _) _)) hc hlim hok (fun _ => ⟨_, _, rfl, hblk.row0⟩) (Nat.le_refl _) (by unfold lim; simp) (Ok.cons (by decide) Ok.nil) (by rw [hv]; omega)
  rw [hv] at hdm
  refine hdm.mono ?_
  rintro e w1 ⟨A1, c1, A2, c2, rfl, h1, h2, h3, h4, hb⟩
  go_wp2_with fail
  go_ret
  exact retsl_mk (below_next (below_alloc (Below.refl _ _) _) hb) rfl h1 h3
theorem rest_any (A A' : Option Addr) (c c' : Nat) (l m : List Nat) (w : World) (hr : Rd w .u64 A l) (hc : l.length ≤ c) (hlim : l.length < lim) (hok : Ok B64 l)
    (hr' : Rd w .u64 A' m) (hc' : m.length ≤ c') (hlim' : m.length < lim) (hok' : Ok B64 m) (hb0 : val B64 m ≠ 0) :
    Calls Try.prog 137 #[.slice A l.length c, .slice A' m.length c'] w (RetSl w .u64 (digs B64 (val B64 l % val B64 m))) := by
  go_enter Try.func137, Try.ntmps137
  go_wp2_with fail
  refine (divmod_any A A' c c' l m w hr hc hlim hok hr' hc' hlim' hok' hb0).mono ?_
  rintro e w1 ⟨A1, c1, A2, c2, rfl, h1, h2, h3, h4, hb⟩
  go_wp2_with fail
  go_ret
  exact retsl_mk hb rfl h2 h4
end Go.Proofs.Ytincemkjdgbnnaa
