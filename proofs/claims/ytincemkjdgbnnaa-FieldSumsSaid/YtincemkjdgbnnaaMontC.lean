/- Walks: package mont: times. -/
import Derived.Test.YtincemkjdgbnnaaMontB
import Derived.Test.YtincemkjdgbnnaaStep
set_option linter.unusedVariables false
set_option linter.unusedSimpArgs false
namespace Go.Proofs.Ytincemkjdgbnnaa
open Go.RowKit Lm

theorem madd_digit {x y s k : Nat} (hx : x < B64) (hy : y < B64) (hs : s < B64) (hk : k < B64) :
    mh1 x y + cy1 (ml1 x y) s 0 < B64 ∧ ad1 (ad1 (ml1 x y) s 0) k 0 = (k + (s + x * y)) % B64 ∧
    mh1 x y + cy1 (ml1 x y) s 0 + cy1 (ad1 (ml1 x y) s 0) k 0 = (k + (s + x * y)) / B64 ∧ (k + (s + x * y)) / B64 < B64 := by
  have h1 : x * y ≤ (B64 - 1) * (B64 - 1) := Nat.mul_le_mul (by omega) (by omega)
  have h2 : (B64 - 1) * (B64 - 1) + (B64 - 1) + (B64 - 1) < B64 * B64 := by decide
  have h3 : (k + (s + x * y)) / B64 < B64 := (Nat.div_lt_iff_lt_mul B64_pos).2 (by omega)
  unfold ad1 ml1 mh1 cy1
  generalize x * y = p at *
  simp only [Nat.add_zero]
  have e1 : p / B64 + (p % B64 + s) / B64 = (p + s) / B64 := by
    have := Nat.div_add_mod p B64
    conv => rhs; rw [← this, Nat.add_assoc, Nat.mul_add_div B64_pos]
  have e2 : (p % B64 + s) % B64 = (p + s) % B64 := Nat.mod_add_mod _ _ _
  have e3 : (p + s) / B64 + ((p + s) % B64 + k) / B64 = (k + (s + p)) / B64 := by
    have := Nat.div_add_mod (p + s) B64
    conv => rhs; rw [show k + (s + p) = (p + s) + k by omega, ← this, Nat.add_assoc, Nat.mul_add_div B64_pos]
  rw [e1, e2, e3, Nat.mod_add_mod]
  refine ⟨?_, by congr 1; omega, rfl, h3⟩
  exact (Nat.div_lt_iff_lt_mul B64_pos).2 (by omega)

theorem tm_carry {x S V i : Nat} (hx : x < B64) (hS : S < B64 ^ i) (hV : V < B64 ^ i) : (S + x * V) / B64 ^ i < B64 := by
  rw [Nat.div_lt_iff_lt_mul (pw_pos i)]
  have h1 : x * V ≤ (B64 - 1) * V := Nat.mul_le_mul_right _ (by omega)
  have h2 : (B64 - 1) * V ≤ (B64 - 1) * (B64 ^ i - 1) := Nat.mul_le_mul_left _ (by omega)
  have h3 : (B64 - 1) * (B64 ^ i - 1) + (B64 - 1) = (B64 - 1) * B64 ^ i := by
    rw [← Nat.mul_succ]; congr 1; have := pw_pos i; omega
  have h4 : (B64 - 1) * B64 ^ i + B64 ^ i = B64 * B64 ^ i := by rw [← Nat.succ_mul]; rfl
  have h5 : 0 < B64 - 1 := by decide
  omega

set_option maxRecDepth 100000 in
set_option maxHeartbeats 3200000 in
theorem times_any (x bv ov lv c' br off lr c : Nat) (tu : TypeId) (M L : List Nat) (w : World) (hx : x < B64) (hM : RowN w .u64 bv ov M) (hokM : Ok B64 M) (hlv : M.length = lv) (hL : Blk w br tu .u64 L) (hokL : Ok B64 L)
    (hfit : off + M.length ≤ L.length) (hlr : M.length ≤ lr) (hc : lr ≤ c) (hne : bv ≠ br) (hlim : M.length < lim) :
    Calls Try.prog 118 #[.int .u64 (x : Int), .slice (some ⟨bv, ov, none⟩) lv c', .slice (some ⟨br, off, none⟩) lr c] w fun e w' =>
      e = .returned (.int .u64 (((val B64 ((L.drop off).take lv) + x * val B64 M) / B64 ^ lv : Nat) : Int)) ∧
      Blk w' br tu .u64 (mid off (fix B64 lv ((val B64 ((L.drop off).take lv) + x * val B64 M) % B64 ^ lv)) L) ∧ Only w w' br := by
  subst hlv
  unfold lim at hlim
  obtain ⟨Lu, hLu⟩ : ∃ X, X = (L.drop off).take M.length := ⟨_, rfl⟩
  have hLul : Lu.length = M.length := by rw [hLu]; simp; omega
  have hokU : Ok B64 Lu := by rw [hLu]; exact (hokL.drop _).take _
  have hmid : mid off Lu L = L := by rw [hLu]; exact mid_self hfit
  rw [← hLu]
  obtain ⟨m, hm⟩ : ∃ m, m = M.length := ⟨_, rfl⟩
  rw [← hm] at hfit hlr hlim hLul ⊢
  have HL := hide hL
  have HM := hide hM
  have HMl := hide hm.symm
  have HLul := hide hLul
  have Hmid := hide hmid
  clear hLu hL hM hm hLul hmid
  go_enter Try.func118, Try.ntmps118
  go_wp2_with fail
  go_loopw [7, 8, 9, 10, 11, 12, 15] (fun cy _ _ _ _ _ k wr => ∃ i : Nat, i ≤ m ∧ k = .int .i64 i ∧
    cy = .int .u64 (((val B64 (Lu.take i) + x * val B64 (M.take i)) / B64 ^ i : Nat) : Int) ∧ Only w wr br ∧
    Blk wr br tu .u64 (mid off (ch B64 i ((val B64 (Lu.take i) + x * val B64 (M.take i)) % B64 ^ i) Lu) L)) (fun _ _ _ _ _ _ k _ => m - (intOf k).toNat)
  case atStart =>
    exact ⟨0, Nat.zero_le _, rfl, by simp, Only.refl _ _, by rw [ch_zero, Hmid.out]; exact HL.out⟩
  case round =>
    obtain ⟨i, hi, rfl, rfl, hon, hblk⟩ := hrel
    have ha := vt_lt hokU B64_pos i
    have hb := vt_lt hokM B64_pos i
    have hk := tm_carry hx ha hb
    have hTm : (val B64 (Lu.take i) + x * val B64 (M.take i)) % B64 ^ i < B64 ^ i := Nat.mod_lt _ (pw_pos i)
    have hcl : (ch B64 i ((val B64 (Lu.take i) + x * val B64 (M.take i)) % B64 ^ i) Lu).length = m := by rw [ch_length (by rw [HLul.out]; omega), HLul.out]
    by_cases hlt : i < m
    · have hcell := (hon.row HM.out hne) i (by rw [HMl.out]; exact hlt)
      have hs : nth Lu i < B64 := Ok.getD B64_pos hokU _
      have hy : nth M i < B64 := Ok.getD B64_pos hokM _
      have hcell2 := hblk.cell (i := off + i) (by rw [mid_length (by rw [hcl]; exact hfit)]; omega)
      rw [nth_mid (by rw [hcl]; exact hfit) (by rw [hcl]; omega), nth_ch (Nat.le_refl _)] at hcell2
      have hfr := hblk.frozen (off + i)
      obtain ⟨pd0, pd1, pd2, pd3⟩ := madd_digit hx hy hs hk
      have hT : val B64 (Lu.take (i + 1)) + x * val B64 (M.take (i + 1)) = val B64 (Lu.take i) + x * val B64 (M.take i) + B64 ^ i * (nth Lu i + x * nth M i) := by
        rw [vt_succ', vt_succ', Nat.mul_add, Nat.mul_add, Nat.mul_left_comm]; omega
      have HN2 := hide (show ((val B64 (Lu.take i) + x * val B64 (M.take i)) / B64 ^ i + (nth Lu i + x * nth M i)) / B64 = (val B64 (Lu.take (i + 1)) + x * val B64 (M.take (i + 1))) / B64 ^ (i + 1) by rw [hT, Nat.pow_succ, carry_div (pw_pos i)])
      have HB := hide (show Blk (wr.setCell ⟨br, off + i, none⟩ (.int .u64 (ad1 (ad1 (ml1 x (nth M i)) (nth Lu i) 0) ((val B64 (Lu.take i) + x * val B64 (M.take i)) / B64 ^ i) 0 : Int))) br tu .u64
          (mid off (ch B64 (i + 1) ((val B64 (Lu.take (i + 1)) + x * val B64 (M.take (i + 1))) % B64 ^ (i + 1)) Lu) L) by
        have h1 := hblk.set_ (off + i) (E := _) (z := ad1 (ad1 (ml1 x (nth M i)) (nth Lu i) 0) ((val B64 (Lu.take i) + x * val B64 (M.take i)) / B64 ^ i) 0) rfl
        rw [mid_set (by rw [hcl]; exact hfit) (by rw [hcl]; omega), ch_set (by rw [HLul.out]; omega) hTm (ad1_lt _ _ _)] at h1
        rw [hT, Nat.pow_succ, carry_mod, ← pd1]
        exact h1)
      have Hon := hide hon
      have HC := hide (mul64_any x (nth M i) hx hy)
      have ek1 : IntKind.u64.wrap ((mh1 x (nth M i) : Int) + (cy1 (ml1 x (nth M i)) (nth Lu i) 0 : Int)) = ((mh1 x (nth M i) + cy1 (ml1 x (nth M i)) (nth Lu i) 0 : Nat) : Int) := by
        rw [← Int.natCast_add, u64_small _ pd0]
      have ek2 : IntKind.u64.wrap ((mh1 x (nth M i) + cy1 (ml1 x (nth M i)) (nth Lu i) 0 : Nat) + (cy1 (ad1 (ml1 x (nth M i)) (nth Lu i) 0) ((val B64 (Lu.take i) + x * val B64 (M.take i)) / B64 ^ i) 0 : Int)) = ((((val B64 (Lu.take i) + x * val B64 (M.take i)) / B64 ^ i + (nth Lu i + x * nth M i)) / B64 : Nat) : Int) := by
        rw [← pd2, ← Int.natCast_add, u64_small _ (by rw [pd2]; exact pd3)]
      generalize ((val B64 (Lu.take i) + x * val B64 (M.take i)) / B64 ^ i + (nth Lu i + x * nth M i)) / B64 = kk at *
      clear hT pd0 pd1 pd2 pd3 hcl ha hb hblk hon hTm
      generalize (val B64 (Lu.take i) + x * val B64 (M.take i)) / B64 ^ i = k0 at *
      generalize nth Lu i = s at *
      generalize nth M i = y at *
      generalize hl : ml1 x y = ml at *
      generalize hh : mh1 x y = mh at *
      have hl := hide hl
      have hh := hide hh
      generalize hh2 : mh + cy1 ml s 0 = mh2 at *
      have hh2 := hide hh2
      go_wp2_with fail
      refine (HC.out _).mono ?_
      rintro e w' ⟨rfl, rfl⟩
      go_wp2_with fail
      exact ⟨⟨i + 1, by omega, by simp, by rw [HN2.out], Hon.out.set_ _ _, HB.out⟩, by simp [intOf]; omega⟩
    · obtain rfl : i = m := by omega
      rw [ch_full' HLul.out, vt_full M (by rw [HMl.out]; exact Nat.le_refl _), vt_full Lu (by rw [HLul.out]; exact Nat.le_refl _)] at hblk
      rw [vt_full M (by rw [HMl.out]; exact Nat.le_refl _), vt_full Lu (by rw [HLul.out]; exact Nat.le_refl _)]
      have Hblk := hide hblk
      have Hon := hide hon
      clear hblk hon hTm ha hb hcl hk
      generalize hR : (val B64 Lu + x * val B64 M) / B64 ^ i = R at *
      have hR := hide hR
      go_wp2_with fail
      go_ret
      exact ⟨ret_int (by rw [hR.out]), Hblk.out, Hon.out⟩
end Go.Proofs.Ytincemkjdgbnnaa
