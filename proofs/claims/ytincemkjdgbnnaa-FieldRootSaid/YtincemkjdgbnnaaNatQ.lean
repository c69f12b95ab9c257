/- Walks: the reference's numbers (nat): a multiple is taken away in place. Walks: the reference's numbers (nat): what was too much is added back in place. Plain: a long division with a guess that is lowered. Walks: the reference's numbers (nat): DivMod, Mod. Walks: the reference's numbers: Mod; the reference's field: N. Walks: the reference's field: Red, Mul. -/
import Derived.Test.YtincemkjdgbnnaaNatP
import Derived.Test.YtincemkjdgbnnaaDivP
import Derived.Test.YtincemkjdgbnnaaAskP
import Derived.Test.YtincemkjdgbnnaaOps
set_option linter.unusedVariables false
set_option linter.unusedSimpArgs false
namespace Go.Proofs.Ytincemkjdgbnnaa
open Go.RowKit Lm

theorem carry_lt32 {g V i : Nat} (hg : g < B32) (hV : V < B32 ^ i) : g * V / B32 ^ i < B32 := by
  rw [Nat.div_lt_iff_lt_mul (p32_pos i)]
  exact Nat.mul_lt_mul'' hg hV

set_option maxRecDepth 100000 in
set_option maxHeartbeats 3200000 in
theorem nless_any (g cc bv ov cb : Nat) (t : TypeId) (F M : List Nat) (i q m : Nat) (w : World) (hF : Blk w g t .u32 F) (okF : Ok B32 F) (hfit : i + (m + 1) ≤ F.length) (hcc : F.length ≤ cc) (hFl : F.length < 2147483648)
    (hM : RowN w .u32 bv ov M) (okM : Ok B32 M) (hMl : M.length = m) (hne : bv ≠ g) (hm0 : 0 < m) (hq : q < B32) :
    Calls Try.prog 142 #[.slice (some ⟨g, 0, none⟩) F.length cc, .slice (some ⟨bv, ov, none⟩) m cb, .int .i64 (i : Int), .int .u64 (q : Int)] w fun e w' =>
      e = .returned (.bool (decide (val B32 ((F.drop i).take (m + 1)) < q * val B32 M))) ∧
      Blk w' g t .u32 (mid i (fix B32 (m + 1) (val B32 ((F.drop i).take (m + 1)) + bor (val B32 ((F.drop i).take (m + 1))) (q * val B32 M) * B32 ^ (m + 1) - q * val B32 M)) F) ∧ Only w w' g := by
  obtain ⟨Wn, hWn⟩ : ∃ X, X = (F.drop i).take (m + 1) := ⟨_, rfl⟩
  have hWl : Wn.length = m + 1 := by rw [hWn]; simp; omega
  have okW : Ok B32 Wn := by rw [hWn]; exact (okF.drop _).take _
  have hmid : mid i Wn F = F := by rw [hWn]; exact mid_self hfit
  rw [← hWn]
  replace hWn := hide hWn
  obtain ⟨n, hn⟩ : ∃ n, n = F.length := ⟨_, rfl⟩
  rw [← hn] at hcc hFl ⊢
  have HFl := hide hn
  clear hn
  have HF := hide hF
  have HM := hide hM
  have HMl := hide hMl
  have HWl := hide hWl
  have Hmid := hide hmid
  have Hfit := hide hfit
  clear hF hM hMl hWl hmid hfit
  go_enter Try.func142, Try.ntmps142
  go_wp2_with fail
  go_loopw [9, 10, 11, 12, 13, 14] (fun cy b_ kk _ _ _ wr => ∃ k : Nat, k ≤ m + 1 ∧ kk = .int .i64 k ∧ b_ = .int .u64 (bor (val B32 (Wn.take k)) (q * val B32 (M.take k) % B32 ^ k) : Int) ∧
    cy = .int .u64 ((q * val B32 (M.take k) / B32 ^ k : Nat) : Int) ∧ Only w wr g ∧
    Blk wr g t .u32 (mid i (ch B32 k (val B32 (Wn.take k) + bor (val B32 (Wn.take k)) (q * val B32 (M.take k) % B32 ^ k) * B32 ^ k - q * val B32 (M.take k) % B32 ^ k) Wn) F)) (fun _ _ kk _ _ _ _ => m + 1 - (intOf kk).toNat)
  case atStart =>
    exact ⟨0, Nat.zero_le _, rfl, by simp [bor], by simp, Only.refl _ _, by rw [ch_zero, Hmid.out]; exact HF.out⟩
  case round =>
    obtain ⟨k, hk, rfl, rfl, rfl, hon, hblk⟩ := hrel
    have hPp := p32_pos k
    have hX := vt_lt okW B32_pos k
    have hY : q * val B32 (M.take k) % B32 ^ k < B32 ^ k := Nat.mod_lt _ hPp
    have hV := sub_lt hX hY
    have hcl : (ch B32 k (val B32 (Wn.take k) + bor (val B32 (Wn.take k)) (q * val B32 (M.take k) % B32 ^ k) * B32 ^ k - q * val B32 (M.take k) % B32 ^ k) Wn).length = m + 1 := by rw [ch_length (by rw [HWl.out]; omega), HWl.out]
    have hck := carry_lt32 hq (vt_lt okM B32_pos k)
    by_cases hlt : k < m + 1
    · have hfit := Hfit.out
      have hx : nth Wn k < B32 := Ok.getD B32_pos okW _
      have hy0 : nth M k < B32 := Ok.getD B32_pos okM _
      have hcell2 := hblk.cell (i := i + k) (by rw [mid_length (by rw [hcl]; exact hfit)]; omega)
      rw [nth_mid (by rw [hcl]; exact hfit) (by rw [hcl]; omega), nth_ch (Nat.le_refl _)] at hcell2
      have hfr := hblk.frozen (i + k)
      obtain ⟨mm, hmm⟩ : ∃ mm, mm = q * val B32 (M.take k) / B32 ^ k + q * nth M k := ⟨_, rfl⟩
      obtain ⟨y, hy⟩ : ∃ y, y = mm % B32 := ⟨_, rfl⟩
      obtain ⟨k1, hk1⟩ : ∃ k1, k1 = mm / B32 := ⟨_, rfl⟩
      have hyB : y < B32 := by rw [hy]; exact Nat.mod_lt _ B32_pos
      have hT : q * val B32 (M.take (k + 1)) = q * val B32 (M.take k) + B32 ^ k * (q * nth M k) := by
        rw [vt_succ', Nat.mul_add, Nat.mul_left_comm]
      have HN2 := hide (show k1 = q * val B32 (M.take (k + 1)) / B32 ^ (k + 1) by rw [hk1, hmm, hT, Nat.pow_succ, carry_div hPp])
      have hP1 : q * val B32 (M.take (k + 1)) % B32 ^ (k + 1) = q * val B32 (M.take k) % B32 ^ k + B32 ^ k * y := by
        rw [hT, Nat.pow_succ, carry_mod, hy, hmm]
      obtain ⟨s1, s2, s3, s4⟩ := sub_step (B := B32) hX hY hx hyB
      rw [← vt_succ', ← hP1] at s1 s2 s3 s4
      rw [← Nat.pow_succ] at s2
      have hble := bor_le (val B32 (Wn.take k)) (q * val B32 (M.take k) % B32 ^ k)
      have hbd : bor (val B32 (Wn.take (k + 1))) (q * val B32 (M.take (k + 1)) % B32 ^ (k + 1)) = if nth Wn k < bor (val B32 (Wn.take k)) (q * val B32 (M.take k) % B32 ^ k) + y then 1 else 0 := by
        unfold bor
        unfold bor at s1
        by_cases h : val B32 (Wn.take (k + 1)) < q * val B32 (M.take (k + 1)) % B32 ^ (k + 1)
        · rw [if_pos h, if_pos (s1.2 h)]
        · rw [if_neg h, if_neg (fun h' => h (s1.1 h'))]
      have HBx := hide (show Blk (wr.setCell ⟨g, i + k, none⟩ (.int .u32 ((nth Wn k + bor (val B32 (Wn.take (k + 1))) (q * val B32 (M.take (k + 1)) % B32 ^ (k + 1)) * B32 - (bor (val B32 (Wn.take k)) (q * val B32 (M.take k) % B32 ^ k) + y) : Nat) : Int))) g t .u32
          (mid i (ch B32 (k + 1) (val B32 (Wn.take (k + 1)) + bor (val B32 (Wn.take (k + 1))) (q * val B32 (M.take (k + 1)) % B32 ^ (k + 1)) * B32 ^ (k + 1) - q * val B32 (M.take (k + 1)) % B32 ^ (k + 1)) Wn) F) by
        have h1 := hblk.set_ (i + k) (E := _) (z := nth Wn k + bor (val B32 (Wn.take (k + 1))) (q * val B32 (M.take (k + 1)) % B32 ^ (k + 1)) * B32 - (bor (val B32 (Wn.take k)) (q * val B32 (M.take k) % B32 ^ k) + y)) rfl
        rw [mid_set (by rw [hcl]; exact hfit) (by rw [hcl]; omega), ch_set (by rw [HWl.out]; omega) hV s4] at h1
        rw [s2]
        exact h1)
      have hcM : k < m → wr.cell? ⟨bv, ov + k, none⟩ = some (.int .u32 (nth M k : Int)) := fun h => (hon.row HM.out hne) k (by rw [HMl.out]; exact h)
      have hzM : m ≤ k → nth M k = 0 := fun h => nth_of_ge (by rw [HMl.out]; exact h)
      have Hon := hide hon
      replace hcM := hide hcM
      replace hzM := hide hzM
      clear hcl hblk hon hX hY hV s1 s2 hT hP1 hPp
      generalize hbo : bor (val B32 (Wn.take k)) (q * val B32 (M.take k) % B32 ^ k) = b0 at *
      generalize hbo' : bor (val B32 (Wn.take (k + 1))) (q * val B32 (M.take (k + 1)) % B32 ^ (k + 1)) = b1 at *
      replace hbo := hide hbo
      replace hbo' := hide hbo'
      generalize q * val B32 (M.take k) / B32 ^ k = k0 at *
      generalize nth Wn k = x at *
      generalize nth M k = y0 at *
      obtain ⟨s, hs⟩ : ∃ s, s = b0 + y := ⟨_, rfl⟩
      obtain ⟨d, hd⟩ : ∃ d, d = x + b1 * B32 - (b0 + y) := ⟨_, rfl⟩
      rw [← hd] at HBx s4
      have hqy : q * y0 ≤ 18446744065119617025 := by
        rw [B32_eq] at hq hy0
        have := Nat.mul_le_mul (show q ≤ 4294967295 by omega) (show y0 ≤ 4294967295 by omega)
        omega
      obtain ⟨PP, hPP⟩ : ∃ P, P = q * y0 := ⟨_, rfl⟩
      rw [← hPP] at hmm hqy
      have hmB : mm < B64 := by rw [hmm, B64_eq]; rw [B32_eq] at hck; omega
      have ex : IntKind.u64.wrap (x : Int) = (x : Int) := wrap_u _ (by omega) (by rw [B32_eq] at hx; omega)
      have ey : IntKind.u64.wrap (y0 : Int) = (y0 : Int) := wrap_u _ (by omega) (by rw [B32_eq] at hy0; omega)
      have e1 : IntKind.u64.wrap ((q : Int) * (y0 : Int)) = (PP : Int) := by
        have : ((q : Int) * (y0 : Int)) = (PP : Int) := by rw [hPP]; simp
        rw [this]; exact u64_small PP (by rw [B64_eq]; omega)
      have e2 : IntKind.u64.wrap ((k0 : Int) + (PP : Int)) = (mm : Int) := by rw [hmm]; rw [B64_eq] at hmB; rw [wrap_u] <;> omega
      have ek : (mm : Int) / 4294967296 = (k1 : Int) := by rw [hk1, B32_eq]; omega
      have ea : bits .and .u64 (mm : Int) 4294967295 = (y : Int) := by rw [and32 mm hmB, hy]
      have es : IntKind.u64.wrap ((y : Int) + (b0 : Int)) = (s : Int) := by rw [hs]; rw [B32_eq] at hyB; rw [wrap_u] <;> omega
      have hnn := HFl.out
      have i1 := wrap_in ((i : Int) + (k : Int)) (by omega) (by omega)
      have i2 : (i : Int) + (k : Int) < (n : Int) := by have := HFl.out; omega
      have i3 : ((i : Int) + (k : Int)).toNat = i + k := by omega
      have i4 : (0 : Int) ≤ (i : Int) + (k : Int) := by omega
      have i5 := wrap_in ((k : Int) + 1) (by omega) (by omega)
      have il : (k : Int) ≤ (m : Int) := by omega
      rw [B32_eq] at hx hyB s3 s4 hd
      rw [← hs] at hbd s3 hd
      have ed : (d : Int) % 4294967296 = (d : Int) := by omega
      have hkm := hide hlt
      clear hlt hfit hck hy0 hqy hmB hnn
      replace hmm := hide hmm
      replace hk1 := hide hk1
      replace hy := hide hy
      replace hs := hide hs
      by_cases hxs : x < s
      · rw [if_pos hxs] at hbd
        subst hbd
        have hdx : decide (x < s) = true := decide_eq_true hxs
        have e3 : IntKind.u64.wrap ((x : Int) + 4294967296) = ((x + 4294967296 : Nat) : Int) := by rw [wrap_u] <;> omega
        have e4 : IntKind.u64.wrap (((x + 4294967296 : Nat) : Int) - (s : Int)) = (d : Int) := by rw [wrap_u] <;> omega
        generalize x + 4294967296 = x' at *
        replace hd := hide hd
        replace hxs := hide hxs
        clear hx hyB hble s3 s4
        by_cases hk2 : k < m
        · have hcell := hcM.out hk2
          replace hPP := hide hPP
          go_wp2_with fail
          exact ⟨⟨k + 1, by have := hkm.out; omega, by simp, by rw [hbo'.out]; rfl, by rw [HN2.out], Hon.out.set_ _ _, by rw [hbo'.out]; exact HBx.out⟩, by simp [intOf]; omega⟩
        · obtain rfl : y0 = 0 := hzM.out (by omega)
          obtain rfl : mm = k0 := by rw [hmm.out, hPP]; omega
          clear hPP e2
          go_wp2_with fail
          exact ⟨⟨k + 1, by have := hkm.out; omega, by simp, by rw [hbo'.out]; rfl, by rw [HN2.out], Hon.out.set_ _ _, by rw [hbo'.out]; exact HBx.out⟩, by simp [intOf]; omega⟩
      · rw [if_neg hxs] at hbd
        subst hbd
        have hdx : decide (x < s) = false := decide_eq_false hxs
        have e4 : IntKind.u64.wrap ((x : Int) - (s : Int)) = (d : Int) := by rw [wrap_u] <;> omega
        replace hd := hide hd
        replace hxs := hide hxs
        clear hx hyB hble s3 s4
        by_cases hk2 : k < m
        · have hcell := hcM.out hk2
          replace hPP := hide hPP
          go_wp2_with fail
          exact ⟨⟨k + 1, by have := hkm.out; omega, by simp, by rw [hbo'.out]; rfl, by rw [HN2.out], Hon.out.set_ _ _, by rw [hbo'.out]; exact HBx.out⟩, by simp [intOf]; omega⟩
        · obtain rfl : y0 = 0 := hzM.out (by omega)
          obtain rfl : mm = k0 := by rw [hmm.out, hPP]; omega
          clear hPP e2
          go_wp2_with fail
          exact ⟨⟨k + 1, by have := hkm.out; omega, by simp, by rw [hbo'.out]; rfl, by rw [HN2.out], Hon.out.set_ _ _, by rw [hbo'.out]; exact HBx.out⟩, by simp [intOf]; omega⟩
    · obtain rfl : k = m + 1 := by omega
      have hMt : M.take (m + 1) = M := List.take_of_length_le (by rw [HMl.out]; omega)
      have hqV : q * val B32 M < B32 ^ (m + 1) := by
        have := val_lt okM
        rw [HMl.out] at this
        rw [Nat.pow_succ, Nat.mul_comm]; exact Nat.mul_lt_mul'' this hq
      rw [ch_full' HWl.out, vt_full Wn (by rw [HWl.out]; exact Nat.le_refl _), hMt, Nat.mod_eq_of_lt hqV] at hblk
      rw [vt_full Wn (by rw [HWl.out]; exact Nat.le_refl _), hMt, Nat.mod_eq_of_lt hqV]
      have il : ¬ ((m + 1 : Nat) : Int) ≤ (m : Int) := by omega
      have Hon := hide hon
      have Hblk := hide hblk
      clear hcl hblk hon hX hY hV hPp hck hMt
      by_cases h : val B32 Wn < q * val B32 M
      · have e : bor (val B32 Wn) (q * val B32 M) = 1 := if_pos h
        rw [e] at Hblk ⊢
        have hE := hide e
        clear e
        replace h := hide h
        go_wp2_with fail
        go_ret
        exact ⟨by rw [decide_eq_true h.out]; rfl, by rw [hE.out]; exact Hblk.out, Hon.out⟩
      · have e : bor (val B32 Wn) (q * val B32 M) = 0 := if_neg h
        rw [e] at Hblk ⊢
        have hE := hide e
        clear e
        replace h := hide h
        go_wp2_with fail
        go_ret
        exact ⟨by rw [decide_eq_false h.out]; rfl, by rw [hE.out]; exact Hblk.out, Hon.out⟩
end Go.Proofs.Ytincemkjdgbnnaa

set_option linter.unusedVariables false
set_option linter.unusedSimpArgs false
namespace Go.Proofs.Ytincemkjdgbnnaa
open Go.RowKit Lm

set_option maxRecDepth 100000 in
set_option maxHeartbeats 3200000 in
theorem nback_any (g cc bv ov cb : Nat) (t : TypeId) (F M : List Nat) (i m : Nat) (w : World) (hF : Blk w g t .u32 F) (okF : Ok B32 F) (hfit : i + (m + 1) ≤ F.length) (hcc : F.length ≤ cc) (hFl : F.length < 2147483648)
    (hM : RowN w .u32 bv ov M) (okM : Ok B32 M) (hMl : M.length = m) (hne : bv ≠ g) (hm0 : 0 < m) :
    Calls Try.prog 143 #[.slice (some ⟨g, 0, none⟩) F.length cc, .slice (some ⟨bv, ov, none⟩) m cb, .int .i64 (i : Int)] w fun e w' =>
      (∃ v, e = .returned v) ∧
      Blk w' g t .u32 (mid i (fix B32 (m + 1) ((val B32 ((F.drop i).take (m + 1)) + val B32 M) % B32 ^ (m + 1))) F) ∧ Only w w' g := by
  obtain ⟨Wn, hWn⟩ : ∃ X, X = (F.drop i).take (m + 1) := ⟨_, rfl⟩
  have hWl : Wn.length = m + 1 := by rw [hWn]; simp; omega
  have okW : Ok B32 Wn := by rw [hWn]; exact (okF.drop _).take _
  have hmid : mid i Wn F = F := by rw [hWn]; exact mid_self hfit
  rw [← hWn]
  replace hWn := hide hWn
  obtain ⟨n, hn⟩ : ∃ n, n = F.length := ⟨_, rfl⟩
  rw [← hn] at hcc hFl ⊢
  have HFl := hide hn
  clear hn
  have HF := hide hF
  have HM := hide hM
  have HMl := hide hMl
  have HWl := hide hWl
  have Hmid := hide hmid
  have Hfit := hide hfit
  clear hF hM hMl hWl hmid hfit
  go_enter Try.func143, Try.ntmps143
  go_wp2_with fail
  go_loopw [6, 7, 8] (fun cy kk _ wr => ∃ k : Nat, k ≤ m + 1 ∧ kk = .int .i64 k ∧ cy = .int .u64 (((val B32 (Wn.take k) + val B32 (M.take k)) / B32 ^ k : Nat) : Int) ∧ Only w wr g ∧
    Blk wr g t .u32 (mid i (ch B32 k ((val B32 (Wn.take k) + val B32 (M.take k)) % B32 ^ k) Wn) F)) (fun _ kk _ _ => m + 1 - (intOf kk).toNat)
  case atStart =>
    exact ⟨0, Nat.zero_le _, rfl, by simp, Only.refl _ _, by rw [ch_zero, Hmid.out]; exact HF.out⟩
  case round =>
    obtain ⟨k, hk, rfl, rfl, hon, hblk⟩ := hrel
    have hPp := p32_pos k
    have hTm : (val B32 (Wn.take k) + val B32 (M.take k)) % B32 ^ k < B32 ^ k := Nat.mod_lt _ hPp
    have hcl : (ch B32 k ((val B32 (Wn.take k) + val B32 (M.take k)) % B32 ^ k) Wn).length = m + 1 := by rw [ch_length (by rw [HWl.out]; omega), HWl.out]
    have hT := carry32_le (vt_lt okW B32_pos k) (vt_lt okM B32_pos k)
    by_cases hlt : k < m + 1
    · have hfit := Hfit.out
      have hx : nth Wn k < B32 := Ok.getD B32_pos okW _
      have hy0 : nth M k < B32 := Ok.getD B32_pos okM _
      have hcell2 := hblk.cell (i := i + k) (by rw [mid_length (by rw [hcl]; exact hfit)]; omega)
      rw [nth_mid (by rw [hcl]; exact hfit) (by rw [hcl]; omega), nth_ch (Nat.le_refl _)] at hcell2
      have hfr := hblk.frozen (i + k)
      have hT' : val B32 (Wn.take (k + 1)) + val B32 (M.take (k + 1)) = val B32 (Wn.take k) + val B32 (M.take k) + B32 ^ k * (nth Wn k + nth M k) := by
        rw [vt_succ', vt_succ', Nat.mul_add]; omega
      have HN := hide (show ((val B32 (Wn.take k) + val B32 (M.take k)) / B32 ^ k + (nth Wn k + nth M k)) / B32 = (val B32 (Wn.take (k + 1)) + val B32 (M.take (k + 1))) / B32 ^ (k + 1) by
        rw [hT', Nat.pow_succ, carry_div hPp])
      have HBx := hide (show Blk (wr.setCell ⟨g, i + k, none⟩ (.int .u32 ((((val B32 (Wn.take k) + val B32 (M.take k)) / B32 ^ k + (nth Wn k + nth M k)) % B32 : Nat) : Int))) g t .u32
          (mid i (ch B32 (k + 1) ((val B32 (Wn.take (k + 1)) + val B32 (M.take (k + 1))) % B32 ^ (k + 1)) Wn) F) by
        have h1 := hblk.set_ (i + k) (E := _) (z := ((val B32 (Wn.take k) + val B32 (M.take k)) / B32 ^ k + (nth Wn k + nth M k)) % B32) rfl
        rw [mid_set (by rw [hcl]; exact hfit) (by rw [hcl]; omega), ch_set (by rw [HWl.out]; omega) hTm (Nat.mod_lt _ B32_pos)] at h1
        rw [hT', Nat.pow_succ, carry_mod]
        exact h1)
      have hcM : k < m → wr.cell? ⟨bv, ov + k, none⟩ = some (.int .u32 (nth M k : Int)) := fun h => (hon.row HM.out hne) k (by rw [HMl.out]; exact h)
      have hzM : m ≤ k → nth M k = 0 := fun h => nth_of_ge (by rw [HMl.out]; exact h)
      have Hon := hide hon
      replace hcM := hide hcM
      replace hzM := hide hzM
      clear hcl hblk hon hTm hT' hPp
      generalize (val B32 (Wn.take k) + val B32 (M.take k)) / B32 ^ k = k0 at *
      generalize nth Wn k = x at *
      generalize nth M k = y at *
      obtain ⟨S, hS⟩ : ∃ S, S = k0 + (x + y) := ⟨_, rfl⟩
      obtain ⟨d, hd⟩ : ∃ d, d = S % B32 := ⟨_, rfl⟩
      obtain ⟨k1, hk1⟩ : ∃ k, k = S / B32 := ⟨_, rfl⟩
      rw [← hS] at HN HBx
      rw [← hk1] at HN
      rw [← hd] at HBx
      have ex : IntKind.u64.wrap (x : Int) = (x : Int) := wrap_u _ (by omega) (by rw [B32_eq] at hx; omega)
      have ey : IntKind.u64.wrap (y : Int) = (y : Int) := wrap_u _ (by omega) (by rw [B32_eq] at hy0; omega)
      rw [B32_eq] at hx hy0
      have ed : (S : Int) % 4294967296 = (d : Int) := by rw [hd, B32_eq]; omega
      have ek : (S : Int) / 4294967296 = (k1 : Int) := by rw [hk1, B32_eq]; omega
      have hnn := HFl.out
      have i1 := wrap_in ((i : Int) + (k : Int)) (by omega) (by omega)
      have i2 : (i : Int) + (k : Int) < (n : Int) := by omega
      have i3 : ((i : Int) + (k : Int)).toNat = i + k := by omega
      have i4 : (0 : Int) ≤ (i : Int) + (k : Int) := by omega
      have i5 := wrap_in ((k : Int) + 1) (by omega) (by omega)
      have il : (k : Int) ≤ (m : Int) := by omega
      have hkm := hide hlt
      obtain ⟨s1, hs1⟩ : ∃ s, s = x + k0 := ⟨_, rfl⟩
      have e1 : IntKind.u64.wrap ((x : Int) + (k0 : Int)) = (s1 : Int) := by rw [hs1, wrap_u] <;> omega
      clear hlt hfit hnn
      by_cases hk2 : k < m
      · have hcell := hcM.out hk2
        have e2 : IntKind.u64.wrap ((s1 : Int) + (y : Int)) = (S : Int) := by rw [hs1, hS, wrap_u] <;> omega
        replace hs1 := hide hs1
        replace hS := hide hS
        replace hd := hide hd
        replace hk1 := hide hk1
        clear hx hy0 hT
        go_wp2_with fail
        exact ⟨⟨k + 1, by have := hkm.out; omega, by simp, by rw [HN.out], Hon.out.set_ _ _, HBx.out⟩, by simp [intOf]; omega⟩
      · obtain rfl : y = 0 := hzM.out (by omega)
        obtain rfl : S = s1 := by omega
        clear hs1
        replace hS := hide hS
        replace hd := hide hd
        replace hk1 := hide hk1
        clear hx hy0 hT
        go_wp2_with fail
        exact ⟨⟨k + 1, by have := hkm.out; omega, by simp, by rw [HN.out], Hon.out.set_ _ _, HBx.out⟩, by simp [intOf]; omega⟩
    · obtain rfl : k = m + 1 := by omega
      have hMt : M.take (m + 1) = M := List.take_of_length_le (by rw [HMl.out]; omega)
      rw [ch_full' HWl.out, vt_full Wn (by rw [HWl.out]; exact Nat.le_refl _), hMt] at hblk
      have il : ¬ ((m + 1 : Nat) : Int) ≤ (m : Int) := by omega
      have Hon := hide hon
      have Hblk := hide hblk
      clear hcl hblk hon hPp hTm hT hMt
      go_wp2_with fail
      go_end0
      exact ⟨⟨_, rfl⟩, Hblk.out, Hon.out⟩
end Go.Proofs.Ytincemkjdgbnnaa

set_option linter.unusedVariables false
set_option linter.unusedSimpArgs false
namespace Go.Proofs.Ytincemkjdgbnnaa
open Go.RowKit Lm

theorem guess_geB {B : Nat} (hB : 0 < B) {M Lu : List Nat} {n : Nat} (hM : Ok B M) (hL : Ok B Lu) (hn : M.length = n + 1) (hLn : Lu.length = n + 2) (hv : 0 < nth M n) :
    val B Lu / val B M ≤ (nth Lu (n + 1) * B + nth Lu n) / nth M n := by
  have hP : 0 < B ^ n := Nat.pow_pos hB
  have h1 : val B M = val B (M.take n) + B ^ n * nth M n := by rw [← vt_succ M n (by omega), vt_full M (by omega)]
  have h2 : val B Lu = val B (Lu.take n) + B ^ n * (nth Lu n + B * nth Lu (n + 1)) := by
    rw [← vt_full (B := B) Lu (i := n + 2) (by omega), vt_succ Lu (n + 1) (by omega), vt_succ Lu n (by omega), Nat.pow_succ, Nat.mul_add, Nat.mul_assoc]; omega
  have h3 := vt_lt hL hB n
  have h4 : val B Lu / B ^ n = nth Lu n + B * nth Lu (n + 1) := by
    rw [h2, Nat.add_mul_div_left _ _ hP, Nat.div_eq_of_lt h3, Nat.zero_add]
  have h5 : val B Lu / val B M ≤ val B Lu / (B ^ n * nth M n) := Nat.div_le_div_left (by omega) (Nat.mul_pos hP hv)
  rw [← Nat.div_div_eq_div_mul, h4] at h5
  rw [Nat.mul_comm (nth Lu (n + 1)), Nat.add_comm]
  exact h5

/-- a window in a row of digits, nothing above it. -/
theorem val_mid {B : Nat} {C : List Nat} {i m : Nat} (hfit : i + m ≤ C.length) (Y : List Nat) (hY : Y.length = m) :
    val B (mid i Y C) = val B (C.take i) + B ^ i * (val B Y + B ^ m * val B (C.drop (i + m))) := by
  unfold mid
  rw [val_append, val_append, List.length_take, Nat.min_eq_left (by omega), hY]
theorem high_zero {B : Nat} (hB : 0 < B) {C : List Nat} {i m : Nat} (hfit : i + m ≤ C.length) (h : val B C < B ^ (i + m)) : val B (C.drop (i + m)) = 0 := by
  have h1 := val_take_drop (B := B) C (i + m) hfit
  rcases Nat.eq_zero_or_pos (val B (C.drop (i + m))) with h2 | h2
  · exact h2
  · have := Nat.mul_le_mul_left (B ^ (i + m)) h2
    omega

/-- one step: the window's remainder takes the window's place. -/
theorem div_step {C : List Nat} {D i n X : Nat} (okC : Ok B32 C) (hfit : i + (n + 1) ≤ C.length) (hD : 0 < D) (hDn : D < B32 ^ n) (hlt : val B32 C < D * B32 ^ (i + 1)) (hX : val B32 C % D = X % D) :
    val B32 ((C.drop i).take (n + 1)) < D * B32 ∧
    val B32 (mid i (fix B32 (n + 1) (val B32 ((C.drop i).take (n + 1)) % D)) C) < D * B32 ^ i ∧ val B32 (mid i (fix B32 (n + 1) (val B32 ((C.drop i).take (n + 1)) % D)) C) % D = X % D ∧
    Ok B32 (mid i (fix B32 (n + 1) (val B32 ((C.drop i).take (n + 1)) % D)) C) ∧ (mid i (fix B32 (n + 1) (val B32 ((C.drop i).take (n + 1)) % D)) C).length = C.length := by
  obtain ⟨Wn, hWn⟩ : ∃ X, X = (C.drop i).take (n + 1) := ⟨_, rfl⟩
  have hWl : Wn.length = n + 1 := by rw [hWn]; simp; omega
  have hself : mid i Wn C = C := by rw [hWn]; exact mid_self hfit
  have hhi : val B32 (C.drop (i + (n + 1))) = 0 := high_zero B32_pos hfit (by
    refine Nat.lt_trans hlt ?_
    rw [show i + (n + 1) = n + (i + 1) by omega, Nat.pow_add B32 n (i + 1)]
    exact Nat.mul_lt_mul_of_pos_right hDn (p32_pos _))
  have hv := val_mid (B := B32) hfit Wn hWl
  rw [hself, hhi, Nat.mul_zero, Nat.add_zero] at hv
  rw [← hWn]
  have hlo := vt_lt okC B32_pos i
  have hPi := p32_pos i
  have hU : val B32 Wn < D * B32 := by
    have h1 : B32 ^ i * val B32 Wn < B32 ^ i * (D * B32) := by
      have : D * B32 ^ (i + 1) = B32 ^ i * (D * B32) := by rw [Nat.pow_succ, Nat.mul_left_comm]
      omega
    exact Nat.lt_of_mul_lt_mul_left h1
  have hr := Nat.mod_lt (val B32 Wn) hD
  have hrlt : val B32 Wn % D < B32 ^ (n + 1) := Nat.lt_trans hr (Nat.lt_of_lt_of_le hDn (Nat.pow_le_pow_right B32_pos (by omega)))
  have hv2 := val_mid (B := B32) hfit (fix B32 (n + 1) (val B32 Wn % D)) (fix_length _ _)
  rw [val_fix_of_lt hrlt, hhi, Nat.mul_zero] at hv2
  simp only [Nat.add_zero] at hv2
  refine ⟨hU, ?_, ?_, ?_, ?_⟩
  · rw [hv2]
    have := Nat.mul_le_mul_left (B32 ^ i) (show val B32 Wn % D + 1 ≤ D from hr)
    rw [Nat.mul_add, Nat.mul_one] at this
    rw [Nat.mul_comm D]
    omega
  · rw [hv2, ← hX, hv]
    have h1 := Nat.div_add_mod (val B32 Wn) D
    have h2 : val B32 (C.take i) + B32 ^ i * val B32 Wn = val B32 (C.take i) + B32 ^ i * (val B32 Wn % D) + D * (B32 ^ i * (val B32 Wn / D)) := by
      conv => lhs; rw [← h1, Nat.mul_add]
      rw [Nat.mul_left_comm]
      omega
    rw [h2, Nat.add_mul_mod_self_left]
  · unfold mid
    exact (okC.take i).append ((fix_ok B32_pos _ _).append (okC.drop _))
  · exact mid_length (by rw [fix_length]; exact hfit)

/-- the guess is right, or it is lowered by one. -/
theorem low_done {P D U g : Nat} (hD : 0 < D) (h1 : g * D ≤ U) (h2 : U / D ≤ g) : g = U / D ∧ U - g * D = U % D := by
  have h3 : g ≤ U / D := (Nat.le_div_iff_mul_le hD).2 h1
  have e : g = U / D := by omega
  refine ⟨e, ?_⟩
  have := Nat.div_add_mod U D
  rw [e, Nat.mul_comm]; omega
theorem low_top {n D U g : Nat} (hDn : D < B32 ^ n) (hg : U < (g + 1) * D) (hgP : (g + 1) * D ≤ B32 ^ (n + 1)) :
    (U < g * D → (U + B32 ^ (n + 1) - (g + 1) * D) / B32 ^ n ≤ (U + B32 ^ (n + 1) - g * D) / B32 ^ n) ∧
    (¬ U < g * D → (U - g * D) / B32 ^ n = 0 ∧ 0 < (U + B32 ^ (n + 1) - (g + 1) * D) / B32 ^ n) := by
  rw [Nat.succ_mul] at hg hgP ⊢
  generalize g * D = a at *
  constructor
  · intro h
    exact Nat.div_le_div_right (by omega)
  · intro h
    refine ⟨Nat.div_eq_of_lt (by omega), Nat.div_pos ?_ (p32_pos n)⟩
    have : 2 * B32 ^ n ≤ B32 ^ (n + 1) := by rw [Nat.pow_succ, Nat.mul_comm]; exact Nat.mul_le_mul_left _ (by decide)
    omega
/-- the digit at the top of a number of n + 1 digits. -/
theorem nth_fix_top {n v : Nat} (h : v < B32 ^ (n + 1)) : nth (fix B32 (n + 1) v) n = v / B32 ^ n := by
  rw [nth_fix32 (by omega), Nat.mod_eq_of_lt ((Nat.div_lt_iff_lt_mul (p32_pos n)).2 (by rw [Nat.mul_comm, ← Nat.pow_succ]; exact h))]
theorem back_step {n D U k : Nat} (hD : 0 < D) (hDn : D < B32 ^ n) (hU : U < B32 ^ (n + 1)) (hk : k + 1 < B32) (h : U < (k + 1) * D) :
    U / D ≤ k ∧ U + B32 ^ (n + 1) - (k + 1) * D < B32 ^ (n + 1) ∧ (U + B32 ^ (n + 1) - (k + 1) * D + D) % B32 ^ (n + 1) < B32 ^ (n + 1) ∧
    (U < k * D → (U + B32 ^ (n + 1) - (k + 1) * D + D) % B32 ^ (n + 1) = U + B32 ^ (n + 1) - k * D ∧ (U + B32 ^ (n + 1) - (k + 1) * D) / B32 ^ n ≤ (U + B32 ^ (n + 1) - (k + 1) * D + D) % B32 ^ (n + 1) / B32 ^ n) ∧
    (¬ U < k * D → k = U / D ∧ (U + B32 ^ (n + 1) - (k + 1) * D + D) % B32 ^ (n + 1) = U % D ∧ ¬ (U + B32 ^ (n + 1) - (k + 1) * D) / B32 ^ n ≤ (U + B32 ^ (n + 1) - (k + 1) * D + D) % B32 ^ (n + 1) / B32 ^ n) := by
  have hP : (k + 1) * D ≤ B32 ^ (n + 1) := by
    rw [Nat.pow_succ, Nat.mul_comm]; exact Nat.mul_le_mul (Nat.le_of_lt hDn) (Nat.le_of_lt hk)
  have hq : U / D ≤ k := by
    have : U / D < k + 1 := (Nat.div_lt_iff_lt_mul hD).2 h
    omega
  obtain ⟨t1, t2⟩ := low_top hDn h hP
  have hs : (k + 1) * D = k * D + D := Nat.succ_mul k D
  refine ⟨hq, by omega, Nat.mod_lt _ (p32_pos _), fun h1 => ?_, fun h1 => ?_⟩
  · have e : (U + B32 ^ (n + 1) - (k + 1) * D + D) % B32 ^ (n + 1) = U + B32 ^ (n + 1) - k * D := by
      rw [show U + B32 ^ (n + 1) - (k + 1) * D + D = U + B32 ^ (n + 1) - k * D by omega]
      exact Nat.mod_eq_of_lt (by omega)
    rw [e]
    exact ⟨rfl, t1 h1⟩
  · obtain ⟨e1, e2⟩ := low_done (P := 0) hD (by omega : k * D ≤ U) hq
    have e : (U + B32 ^ (n + 1) - (k + 1) * D + D) % B32 ^ (n + 1) = U - k * D := by
      rw [show U + B32 ^ (n + 1) - (k + 1) * D + D = (U - k * D) + B32 ^ (n + 1) by omega, Nat.add_mod_right]
      exact Nat.mod_eq_of_lt (by omega)
    obtain ⟨t3, t4⟩ := t2 h1
    rw [e]
    exact ⟨e1, e2, by omega⟩
theorem mid_win {i m : Nat} {Y C : List Nat} (hfit : i + m ≤ C.length) (hY : Y.length = m) : ((mid i Y C).drop i).take m = Y := by
  unfold mid
  rw [List.drop_append_of_le_length (by rw [List.length_take]; omega), List.drop_take, Nat.sub_self, List.take_zero, List.nil_append, List.take_append_of_le_length (by omega), List.take_of_length_le (by omega)]
theorem mul_mod_shift (a b s : Nat) : a * 2 ^ s % (b * 2 ^ s) = a % b * 2 ^ s := Nat.mul_mod_mul_right _ _ _
end Go.Proofs.Ytincemkjdgbnnaa

set_option linter.unusedVariables false
set_option linter.unusedSimpArgs false
namespace Go.Proofs.Ytincemkjdgbnnaa
open Go.RowKit Lm

/-- a call hands back some quotient, and what is left. -/
def RetMod (w : World) (r : Nat) (e : Ending) (w' : World) : Prop :=
  ∃ v A c, e = .returned (.tuple #[v, .slice A (digs B32 r).length c]) ∧ (digs B32 r).length ≤ c ∧ Rd w' .u32 A (digs B32 r) ∧ Below w.heap.size w w'

theorem Blk.trans' {w w' : World} {b : Nat} {t : TypeId} {k : IntKind} {L : List Nat} (h : Blk w b t k L) (hb : Below w.heap.size w w') : Blk w' b t k L := (hb.block b h.lt).trans h
theorem retmod_mk {w w' : World} {r n c : Nat} {v : Value} {A : Option Addr} {L : List Nat} (hL : digs B32 r = L) (hn : L.length = n) (hc : n ≤ c) (hr : Rd w' .u32 A L) (hb : Below w.heap.size w w') :
    RetMod w r (.returned (.tuple #[v, .slice A n c])) w' := by subst hL; subst hn; exact ⟨v, A, c, rfl, hc, hr, hb⟩

set_option maxRecDepth 100000 in
set_option maxHeartbeats 1600000 in
theorem ndivmod_small (A A' : Option Addr) (c c' a b : Nat) (w : World) (hr : Rd w .u32 A (digs B32 a)) (hc : (digs B32 a).length ≤ c) (hlim : (digs B32 a).length ≤ 1073741824)
    (hr' : Rd w .u32 A' (digs B32 b)) (hlim' : (digs B32 b).length ≤ 1073741824) (hab : a < b) :
    Calls Try.prog 121 #[.slice A (digs B32 a).length c, .slice A' (digs B32 b).length c'] w (RetMod w (a % b)) := by
  have hcmp := hide (ncmp_any A A' c c' a b w hr hr' (by unfold lim; omega) (by unfold lim; omega))
  have hd : cmpI a b = -1 := by unfold cmpI; rw [if_pos hab]
  rw [hd] at hcmp
  have hm := hide (Nat.mod_eq_of_lt hab)
  have Hr := hide hr
  have Hc := hide hc
  clear hr hr' hlim hlim' hab hd hc
  generalize hLa : digs B32 a = L at *
  replace hLa := hide hLa
  generalize digs B32 b = M at *
  go_enter Try.func121, Try.ntmps121
  go_wp2_with (go_at_call 21; refine hcmp.out.mono ?_; rintro e w1 ⟨rfl, hb1⟩; replace hb1 := hide hb1)
  go_ret2
  exact retmod_mk (by rw [hm.out, hLa.out]) rfl Hc.out (Hr.out.below hb1.out) hb1.out

set_option maxRecDepth 100000 in
set_option maxHeartbeats 6400000 in
theorem ndivmod_big (A A' : Option Addr) (c c' a b : Nat) (w : World) (hr : Rd w .u32 A (digs B32 a)) (hc : (digs B32 a).length ≤ c) (hlim : (digs B32 a).length ≤ 33554432)
    (hr' : Rd w .u32 A' (digs B32 b)) (hc' : (digs B32 b).length ≤ c') (hlim' : (digs B32 b).length ≤ 33554432) (hb0 : 0 < b) (hab : b ≤ a) :
    Calls Try.prog 121 #[.slice A (digs B32 a).length c, .slice A' (digs B32 b).length c'] w (RetMod w (a % b)) := by
  have hcmp := hide (ncmp_any A A' c c' a b w hr hr' (by unfold lim; omega) (by unfold lim; omega))
  obtain ⟨cm, hcm⟩ : ∃ x, x = cmpI a b := ⟨_, rfl⟩
  rw [← hcm] at hcmp
  have hcm0 : ¬ cm < 0 := by rw [hcm]; unfold cmpI; rw [if_neg (by omega)]; split <;> decide
  replace hcm := hide hcm
  have hlen := hide (fun W h => nlen_any A' c' b W h hc' (by omega))
  -- the shift
  have hqpos : 0 < (digs B32 b).length := by
    rcases Nat.eq_zero_or_pos (digs B32 b).length with h | h
    · have h1 := digs_lt B32_ge b; rw [h, Nat.pow_zero] at h1; omega
    · exact h
  have hbl1 : blen b ≤ 32 * (digs B32 b).length := blen_le_of_lt (by rw [Nat.pow_mul]; exact digs_lt B32_ge b)
  have hbl2 : 32 * ((digs B32 b).length - 1) < blen b := lt_blen_of_le (by rw [Nat.pow_mul]; exact digs_ge_pow B32_ge hqpos)
  obtain ⟨s, hs⟩ : ∃ s, s = 32 * (digs B32 b).length - blen b := ⟨_, rfl⟩
  have hs32 : s < 32 := by omega
  have iws := wrap_in (s : Int) (by omega) (by omega)
  have iwq := wrap_in (32 * ((digs B32 b).length : Int)) (by omega) (by omega)
  have es : 32 * ((digs B32 b).length : Int) - (blen b : Int) = (s : Int) := by omega
  have hshb := hide (fun W h => nshl_any A' c' b s W hs32 h hc' (by unfold lim; omega))
  have hsha := hide (fun W h => nshl_any A c a s W hs32 h hc (by unfold lim; omega))
  have Hr := hide hr
  have Hr' := hide hr'
  have Hc := hide hc
  have Hc' := hide hc'
  -- what is divided, and by what
  obtain ⟨D, hD⟩ : ∃ D, D = b * 2 ^ s := ⟨_, rfl⟩
  obtain ⟨X, hX⟩ : ∃ X, X = a * 2 ^ s := ⟨_, rfl⟩
  have h2s : 0 < 2 ^ s := Nat.pow_pos (by omega)
  have hD0 : 0 < D := by rw [hD]; exact Nat.mul_pos hb0 h2s
  have hDX : D ≤ X := by rw [hD, hX]; exact Nat.mul_le_mul_right _ hab
  have hXlt : X < B32 ^ ((digs B32 a).length + 1) := by
    rw [hX, Nat.pow_succ]; exact Nat.mul_lt_mul'' (digs_lt B32_ge a) (Nat.pow_lt_pow_right (by decide) hs32)
  have hXl : (digs B32 X).length ≤ (digs B32 a).length + 1 := digs_length_le B32_ge hXlt
  have hDl : (digs B32 D).length ≤ (digs B32 a).length + 1 := digs_length_le B32_ge (Nat.lt_of_le_of_lt hDX hXlt)
  have hDpos : 0 < (digs B32 D).length := by
    rcases Nat.eq_zero_or_pos (digs B32 D).length with h | h
    · have h1 := digs_lt B32_ge D; rw [h, Nat.pow_zero] at h1; omega
    · exact h
  have hmod := hide (show X % D = a % b * 2 ^ s by rw [hX, hD]; exact mul_mod_shift a b s)
  rw [← hD] at hshb
  rw [← hX] at hsha
  have HDe := hide hD
  have HXe := hide hX
  have HXlt := hide hXlt
  have Hs := hide hs
  have hD1 : s = 0 → D = b ∧ X = a := fun h => by rw [hD, hX, h]; simp
  replace hD1 := hide hD1
  clear hr hr' hc hc' hb0 hab hbl1 hbl2 hD hX hXlt hs h2s
  generalize hbb : blen b = bb at *
  replace hbb := hide hbb
  generalize hLa : digs B32 a = La at *
  replace hLa := hide hLa
  generalize hLb : digs B32 b = Lb at *
  replace hLb := hide hLb
  generalize hp : La.length = p at *
  replace hp := hide hp
  generalize hq : Lb.length = q at *
  replace hq := hide hq
  go_enter Try.func121, Try.ntmps121
  go_upto_if 32 with (first
    | (go_at_call 21; refine hcmp.out.mono ?_; rintro e w1 ⟨rfl, hb1⟩; replace hb1 := hide hb1)
    | (go_at_call 102; refine (hlen.out w1 (Hr'.out.below hb1.out)).mono ?_; rintro e w2 ⟨rfl, rfl⟩))
  clear iws iwq es
  go_cut [7, 8] (fun s7 s8 wx => ∃ Ad cd Ax cx, s7 = .slice Ad (digs B32 D).length cd ∧ s8 = .slice Ax (digs B32 X).length cx ∧ (digs B32 D).length ≤ cd ∧ (digs B32 X).length ≤ cx ∧ Rd wx .u32 Ad (digs B32 D) ∧ Rd wx .u32 Ax (digs B32 X) ∧ Below w.heap.size w wx)
  case first =>
    by_cases hs0 : s = 0
    · obtain ⟨e1, e2⟩ := hD1.out hs0
      subst hs0
      replace e1 := hide e1
      replace e2 := hide e2
      go_wp2_with fail
      go_meet
      refine ⟨A', c', A, c, ?_, ?_, ?_, ?_, ?_, ?_, hb1.out⟩
      · rw [e1.out, hLb.out, hq.out]
      · rw [e2.out, hLa.out, hp.out]
      · rw [e1.out, hLb.out, hq.out]; exact Hc'.out
      · rw [e2.out, hLa.out, hp.out]; exact Hc.out
      · rw [e1.out, hLb.out]; exact Hr'.out.below hb1.out
      · rw [e2.out, hLa.out]; exact Hr.out.below hb1.out
    · have hsp : 0 < s := by omega
      go_wp2_with (first
        | (go_at_call 138; refine (hsha.out w3 ((Hr.out.below hb1.out).below hb3.out)).mono ?_; rintro e w4 ⟨A4, c4, rfl, hc4, hr4, hb4⟩; replace hc4 := hide hc4; replace hr4 := hide hr4; replace hb4 := hide hb4)
        | (go_at_call 138; refine (hshb.out w2 (Hr'.out.below hb1.out)).mono ?_; rintro e w3 ⟨A3, c3, rfl, hc3, hr3, hb3⟩; replace hc3 := hide hc3; replace hr3 := hide hr3; replace hb3 := hide hb3))
      go_meet
      exact ⟨A3, c3, A4, c4, rfl, rfl, hc3.out, hc4.out, hr3.out.below hb4.out, hr4.out, below_next (below_next hb1.out hb3.out) hb4.out⟩
  obtain ⟨Ad, cd, Ax, cx, rfl, rfl, hcd, hcx, hrd, hrx, hbc⟩ := hcut
  have hvD := hide (val_digs B32_ge D)
  have hvX := hide (val_digs B32_ge X)
  have okD := hide (digs_ok B32_ge D)
  have okX := hide (digs_ok B32_ge X)
  have hDn := hide (digs_lt B32_ge D)
  have hDt := hide (digs_trimmed B32_ge D)
  have hDge := hide (digs_ge_pow B32_ge hDpos)
  have hDX' := hide hDX
  clear hcmp hlen hshb hsha Hr Hr' Hc Hc' hb1 hbb hLa hLb hD1 HDe HXe hDX hcm0 hcm Hs
  generalize digs B32 D = DD at *
  generalize digs B32 X = XX at *
  generalize hn : DD.length = n at *
  generalize hlx : XX.length = lx at *
  replace hn := hide hn
  replace hlx := hide hlx
  obtain ⟨bd, od, rfl, hrowd⟩ := hrd (by rw [hn.out]; exact hDpos)
  have hbd := hrowd.lt (by rw [hn.out]; exact hDpos)
  have hmk := mk_u32 ((p : Int) + 2) (p + 2) (by omega) (by unfold lim; omega)
  have iw := wrap_in ((p : Int) + 2) (by omega) (by omega)
  have Hrowd := hide hrowd
  have Hrx := hide hrx
  have Hbc := hide hbc
  have hpN := hide (show (p + 2 : Nat) = p + 2 from rfl)
  clear hrowd hrd hrx hbc
  go_wp2_with fail
  clear hmk iw
  go_loopw [10] (fun k wr => ∃ i : Nat, i ≤ lx ∧ k = .int .i64 i ∧ Only (wc.alloc (nblk .u32 95 (List.replicate (p + 2) 0))) wr wc.heap.size ∧
    Blk wr wc.heap.size 95 .u32 (ch B32 i (val B32 (XX.take i)) (List.replicate (p + 2) 0))) (fun k _ => lx - (intOf k).toNat)
  case atStart => exact ⟨0, Nat.zero_le _, rfl, Only.refl _ _, by rw [ch_zero]; exact Blk.new _ _ _ _⟩
  case round =>
    obtain ⟨i, hi, rfl, hon, hblk⟩ := hrel
    by_cases hlt : i < lx
    · obtain ⟨bx, ox, rfl, hrowx⟩ := Hrx.out (by rw [hlx.out]; omega)
      have hbx := hrowx.lt (by rw [hlx.out]; omega)
      have hcell := hon.row (hrowx.below ((Below.refl _ _).alloc (Nat.le_refl _) _)) (by omega) i (by rw [hlx.out]; exact hlt)
      have hx : nth XX i < B32 := Ok.getD B32_pos okX.out _
      have hcl : (ch B32 i (val B32 (XX.take i)) (List.replicate (p + 2) 0)).length = p + 2 := by rw [ch_length (by simp; omega)]; simp
      have hcell2 := hblk.cell (i := i) (by rw [hcl]; omega)
      have hfr := hblk.frozen i
      have hb2 := hide (hblk.set_ i (E := _) (z := nth XX i) rfl)
      rw [ch_set (by simp; omega) (vt_lt okX.out B32_pos i) hx, ← vt_succ'] at hb2
      have Hon := hide hon
      have i1 : (i : Int) < (p : Int) + 2 := by omega
      have i2 := wrap_in ((i : Int) + 1) (by omega) (by omega)
      clear hrowx hbx hcl hblk hon hx
      go_wp2_with fail
      exact ⟨⟨i + 1, by omega, by simp, Hon.out.set_ _ _, hb2.out⟩, by simp [intOf]; omega⟩
    · obtain rfl : i = lx := by omega
      clear hlt hi
      rw [vt_full XX (by rw [hlx.out]; exact Nat.le_refl _), hvX.out] at hblk
      have hvC : val B32 (ch B32 i X (List.replicate (p + 2) 0)) = X := by
        unfold ch
        have hXi : X < B32 ^ i := by
          have := val_lt okX.out
          rwa [hvX.out, hlx.out] at this
        rw [val_append, fix_length, val_fix_of_lt hXi, List.drop_replicate, val_replicate]
        simp
      have okC : Ok B32 (ch B32 i X (List.replicate (p + 2) 0)) := ch_ok B32_pos (Ok.replicate B32_pos _)
      have hCl : (ch B32 i X (List.replicate (p + 2) 0)).length = p + 2 := by rw [ch_length (by simp; omega)]; simp
      have hB1 : Below w.heap.size w wr := below_then Hbc.out Hbc.out.size (Only.below ((Below.refl _ _).alloc (Nat.le_refl _) _) hon (Nat.le_refl _))
      have hrow1 : RowN wr .u32 bd od DD := hon.row (Hrowd.out.below ((Below.refl _ _).alloc (Nat.le_refl _) _)) (by omega)
      have hgw : wc.heap.size < wr.heap.size := hblk.lt
      have hbdg : bd ≠ wc.heap.size := by omega
      have hg0 : w.heap.size ≤ wc.heap.size := Hbc.out.size
      have hbdw : bd < wr.heap.size := by omega
      generalize ch B32 i X (List.replicate (p + 2) 0) = C0 at *
      generalize wc.heap.size = g at *
      obtain ⟨J, hJ⟩ : ∃ J, J = p + 2 - n := ⟨_, rfl⟩
      have hmk := mk_u32 (J : Int) J rfl (by unfold lim; omega)
      have iw := wrap_in ((p : Int) + 2 - (n : Int)) (by omega) (by omega)
      have eJ : (p : Int) + 2 - (n : Int) = (J : Int) := by omega
      have iw2 := wrap_in (J : Int) (by omega) (by omega)
      have iw3 := wrap_in ((J : Int) - 1) (by omega) (by omega)
      replace hJ := hide hJ
      replace hvC := hide hvC
      replace okC := hide okC
      replace hCl := hide hCl
      replace hB1 := hide hB1
      replace hrow1 := hide hrow1
      have Hblk := hide hblk
      clear hon hblk Hrowd Hrx Hbc
      go_wp2_with fail
      obtain ⟨gq, hgq⟩ : ∃ q, q = wr.heap.size := ⟨_, rfl⟩
      obtain ⟨w5, hw5⟩ : ∃ W, W = wr.alloc (nblk .u32 95 (List.replicate J 0)) := ⟨_, rfl⟩
      rw [← hw5, ← hgq]
      have hb5 : Below wr.heap.size wr w5 := by rw [hw5]; exact below_alloc (Below.refl _ _) _
      have hQ5 := hide (show Blk w5 gq 95 .u32 (List.replicate J 0) by rw [hw5, hgq]; exact Blk.new _ _ _ _)
      have hC5 := hide (show Blk w5 g 95 .u32 C0 by rw [hw5]; exact Hblk.out.alloc _)
      have hR5 := hide (hrow1.out.below hb5)
      have hB5 := hide (below_then hB1.out hB1.out.size hb5)
      have hgqg : gq ≠ g := by omega
      have hbdq : bd ≠ gq := by omega
      have hgq0 : w.heap.size ≤ gq := by omega
      clear hw5 hgq hb5 hmk iw eJ iw2 iw3 hgw hbdw Hblk hrow1 hB1 hbd
      have hgqg := hide hgqg
      have hbdq := hide hbdq
      have hbdg := hide hbdg
      have hgq0 := hide hgq0
      have hg0 := hide hg0
      have HLess : Hid (∀ (C : List Nat) (i G : Nat) (W : World), Blk W g 95 .u32 C → Ok B32 C → C.length = p + 2 → i + (n + 1) ≤ p + 2 → RowN W .u32 bd od DD → G < B32 →
          Calls Try.prog 142 #[.slice (some ⟨g, 0, none⟩) (p + 2) (p + 2), .slice (some ⟨bd, od, none⟩) n cd, .int .i64 (i : Int), .int .u64 (G : Int)] W fun e w' =>
            e = .returned (.bool (decide (val B32 ((C.drop i).take (n + 1)) < G * D))) ∧
            Blk w' g 95 .u32 (mid i (fix B32 (n + 1) (val B32 ((C.drop i).take (n + 1)) + bor (val B32 ((C.drop i).take (n + 1))) (G * D) * B32 ^ (n + 1) - G * D)) C) ∧ Only W w' g) := hide fun C i G W h1 h2 h3 h4 h5 h6 => by
        have := nless_any g (p + 2) bd od cd 95 C DD i G n W h1 h2 (by omega) (by omega) (by omega) h5 okD.out hn.out hbdg.out hDpos h6
        rw [h3, hvD.out] at this; exact this
      have HBack : Hid (∀ (C : List Nat) (i : Nat) (W : World), Blk W g 95 .u32 C → Ok B32 C → C.length = p + 2 → i + (n + 1) ≤ p + 2 → RowN W .u32 bd od DD →
          Calls Try.prog 143 #[.slice (some ⟨g, 0, none⟩) (p + 2) (p + 2), .slice (some ⟨bd, od, none⟩) n cd, .int .i64 (i : Int)] W fun e w' =>
            (∃ v, e = .returned v) ∧ Blk w' g 95 .u32 (mid i (fix B32 (n + 1) ((val B32 ((C.drop i).take (n + 1)) + D) % B32 ^ (n + 1))) C) ∧ Only W w' g) := hide fun C i W h1 h2 h3 h4 h5 => by
        have := nback_any g (p + 2) bd od cd 95 C DD i n W h1 h2 (by omega) (by omega) (by omega) h5 okD.out hn.out hbdg.out hDpos
        rw [h3, hvD.out] at this; exact this
      go_loopw [13, 14, 15, 16, 17] (fun k _ _ _ _ wx => ∃ (j : Nat) (C Q : List Nat), j ≤ J ∧ k = .int .i64 ((j : Int) - 1) ∧ Below w.heap.size w wx ∧ Blk wx g 95 .u32 C ∧ Blk wx gq 95 .u32 Q ∧
        Hid (RowN wx .u32 bd od DD) ∧ Hid (Ok B32 C ∧ C.length = p + 2 ∧ val B32 C < D * B32 ^ j ∧ val B32 C % D = X % D ∧ Ok B32 Q ∧ Q.length = J)) (fun k _ _ _ _ _ => (intOf k + 1).toNat)
      case atStart =>
        refine ⟨J, C0, List.replicate J 0, Nat.le_refl _, rfl, hB5.out, hC5.out, hQ5.out, hR5, okC.out, hCl.out, ?_, by rw [hvC.out], Ok.replicate B32_pos _, by simp⟩
        rw [hvC.out]
        have h1 : B32 ^ (n - 1) ≤ D := hDge.out
        have h2 := Nat.mul_le_mul_right (B32 ^ J) h1
        rw [← Nat.pow_add, show n - 1 + J = p + 1 by have := hJ.out; omega] at h2
        exact Nat.lt_of_lt_of_le HXlt.out h2
      case round =>
        clear hB5 hC5 hQ5 hR5 hvC okC hCl
        obtain ⟨j, C, Q, hj, rfl, hbw, hC, hQ, hR, hI⟩ := hrel
        by_cases h0 : 0 < j
        · obtain ⟨i, rfl⟩ : ∃ i, j = i + 1 := ⟨j - 1, by omega⟩
          rw [show ((i + 1 : Nat) : Int) - 1 = (i : Int) by omega]
          obtain ⟨okC, hCl, hClt, hCX, okQ, hQl⟩ := hI.out
          have hfit : i + (n + 1) ≤ C.length := by rw [hCl]; have := hJ.out; omega
          obtain ⟨hU, hs1, hs2, hs3, hs4⟩ := div_step okC hfit hD0 hDn.out hClt hCX
          obtain ⟨n1, hn1⟩ : ∃ k, n = k + 1 := ⟨n - 1, by omega⟩
          obtain ⟨m2, hm2⟩ : ∃ m, m = i + n := ⟨_, rfl⟩
          obtain ⟨m1, hm1⟩ : ∃ m, m = i + n1 := ⟨_, rfl⟩
          have hc2 := hC.cell (i := m2) (by omega)
          have hc1 := hC.cell (i := m1) (by omega)
          have hcd' := hR.out n1 (by rw [hn.out]; omega)
          have hhi : nth C m2 < B32 := Ok.getD B32_pos okC _
          have hlo : nth C m1 < B32 := Ok.getD B32_pos okC _
          have hdn : nth DD n1 < B32 := Ok.getD B32_pos okD.out _
          have hdn0 : 0 < nth DD n1 := by
            have h := hDt.out (by intro e; have := hn.out; rw [e] at this; simp at this; omega)
            rw [List.getLast_eq_getElem] at h
            have e : nth DD n1 = DD[DD.length - 1]'(by rw [hn.out]; omega) := by
              rw [nth_of_lt (by rw [hn.out]; omega)]; congr 1; have := hn.out; omega
            rw [e]; omega
          have hWl : ((C.drop i).take (n + 1)).length = n1 + 2 := by simp; omega
          have hge := guess_geB B32_pos okD.out ((okC.drop i).take (n + 1)) (by rw [hn.out, hn1]) hWl hdn0
          have e2 : nth ((C.drop i).take (n + 1)) (n1 + 1) = nth C m2 := by rw [nth_take (by omega), nth_drop, hm2, hn1]
          have e1 : nth ((C.drop i).take (n + 1)) n1 = nth C m1 := by rw [nth_take (by omega), nth_drop, hm1]
          rw [hvD.out, e1, e2] at hge
          have hqd : val B32 ((C.drop i).take (n + 1)) / D < B32 := (Nat.div_lt_iff_lt_mul hD0).2 (by rw [Nat.mul_comm]; exact hU)
          obtain ⟨U, hUe⟩ : ∃ U, U = val B32 ((C.drop i).take (n + 1)) := ⟨_, rfl⟩
          rw [← hUe] at hU hs1 hs2 hs3 hs4 hge hqd
          have HL := hide (fun G W h1 h5 h6 => HLess.out C i G W h1 okC hCl (by omega) h5 h6)
          rw [← hUe] at HL
          have HS := hide (And.intro hs1 (And.intro hs2 (And.intro hs3 hs4)))
          have HI := hI
          have hfit2 := hide hfit
          have Hbw := hide hbw
          have HC := hide hC
          have HQ := hide hQ
          have HU := hide hUe
          have hUB : U < B32 ^ (n + 1) := by
            rw [hUe]
            have h1 := val_lt ((okC.drop i).take (n + 1))
            rwa [hWl, show n1 + 2 = n + 1 by omega] at h1
          generalize nth C m2 = xh at *
          generalize nth C m1 = xl at *
          generalize nth DD n1 = dn at *
          have iA : IntKind.i64.wrap ((i : Int) + (n : Int)) = (m2 : Int) := by rw [wrap_in] <;> omega
          have iB : IntKind.i64.wrap ((m2 : Int) - 1) = (m1 : Int) := by rw [wrap_in] <;> omega
          have iC : IntKind.i64.wrap ((n : Int) - 1) = (n1 : Int) := by rw [wrap_in] <;> omega
          have iD : (m2 : Int) < (p : Int) + 2 := by omega
          have iE : (m1 : Int) < (p : Int) + 2 := by omega
          have iF : (n1 : Int) < (n : Int) := by omega
          have iG := wrap_in ((i : Int) - 1) (by omega) (by omega)
          have iH : (i : Int) < (J : Int) := by omega
          obtain ⟨hs, hhs⟩ : ∃ h, h = xh * B32 := ⟨_, rfl⟩
          obtain ⟨tp, htp⟩ : ∃ t, t = hs + xl := ⟨_, rfl⟩
          rw [← hhs, ← htp] at hge
          have eh : IntKind.u64.wrap (xh : Int) = (xh : Int) := wrap_u _ (by omega) (by rw [B32_eq] at hhi; omega)
          have el : IntKind.u64.wrap (xl : Int) = (xl : Int) := wrap_u _ (by omega) (by rw [B32_eq] at hlo; omega)
          have ed : IntKind.u64.wrap (dn : Int) = (dn : Int) := wrap_u _ (by omega) (by rw [B32_eq] at hdn; omega)
          have es : IntKind.u64.wrap ((xh : Int) * 4294967296) = (hs : Int) := by rw [hhs, B32_eq]; rw [B32_eq] at hhi; rw [wrap_u] <;> omega
          have hsB : hs < B64 := by rw [hhs, B64_eq, B32_eq]; rw [B32_eq] at hhi; omega
          have eo : bits .or .u64 (hs : Int) (xl : Int) = (tp : Int) := by
            rw [or_u64 hsB (by rw [B64_eq]; rw [B32_eq] at hlo; omega), or_add (m := 32) (by rw [hhs]; exact Nat.mul_mod_left _ _) hlo, htp]
          have hdz : ¬ (dn : Int) = 0 := by omega
          have htpB : tp < B64 := by rw [htp, hhs, B64_eq, B32_eq]; rw [B32_eq] at hhi hlo; omega
          replace hhs := hide hhs
          replace htp := hide htp
          replace hm1 := hide hm1
          replace hm2 := hide hm2
          replace hn1 := hide hn1
          clear okC hCl hClt hCX okQ hQl hs1 hs2 hs3 hs4 hbw hC hQ hUe hfit hWl e1 e2 hhi hlo hdn hsB hI
          obtain ⟨qd, hqde⟩ : ∃ v, v = U / D := ⟨_, rfl⟩
          rw [← hqde] at hge hqd
          replace hqde := hide hqde
          obtain ⟨g0, hg0e⟩ : ∃ g0, g0 = tp / dn := ⟨_, rfl⟩
          rw [← hg0e] at hge
          have eq0 : IntKind.u64.wrap ((tp : Int) / (dn : Int)) = (g0 : Int) := by
            rw [hg0e, ← Int.natCast_ediv]; exact u64_small _ (Nat.lt_of_le_of_lt (Nat.div_le_self _ _) htpB)
          replace hg0e := hide hg0e
          clear htpB hdn0
          go_wp2_with fail
          go_region
          go_upto_if 98 with fail
          go_cut [15] (fun sg wx => ∃ G : Nat, sg = .int .u64 (G : Int) ∧ qd ≤ G ∧ G < B32 ∧ wx = wr.drew)
          case first =>
            by_cases hbig : 4294967295 < g0
            · have hb1 : (4294967295 : Int) < (g0 : Int) := by omega
              go_wp2_with fail
              go_meet
              exact ⟨4294967295, rfl, by rw [B32_eq] at hqd; omega, by decide, rfl⟩
            · have hb1 : ¬ (4294967295 : Int) < (g0 : Int) := by omega
              go_wp2_with fail
              go_meet
              exact ⟨g0, rfl, hge, by rw [B32_eq]; omega, rfl⟩
          obtain ⟨G, rfl, hG1, hG2, hw6⟩ := hcut
          have HC6 := hide (show Blk wc g 95 .u32 C by rw [hw6]; exact HC.out.drew)
          have HQ6 := hide (show Blk wc gq 95 .u32 Q by rw [hw6]; exact HQ.out.drew)
          have HR6 := hide (show RowN wc .u32 bd od DD by rw [hw6]; exact hR.out)
          have HB6 := hide (show Below w.heap.size w wc by rw [hw6]; exact below_drew Hbw.out)
          obtain ⟨bl, hbl⟩ : ∃ t, t = decide (U < G * D) := ⟨_, rfl⟩
          have hless := hide (HL.out G wc HC6.out HR6.out hG2)
          rw [← hbl] at hless
          replace hbl := hide hbl
          replace hw6 := hide hw6
          clear eq0 hge eo es HC HQ hR Hbw HL hc1 hc2 hcd' eh el ed iB iC iE iF
          go_upto_if 103 with (go_at_call 142; refine hless.out.mono ?_; rintro e w7 ⟨rfl, hC7, ho7⟩; replace hC7 := hide hC7; replace ho7 := hide ho7)
          have HQ7 := hide (ho7.out.blk HQ6.out hgqg.out)
          have HR7 := hide (ho7.out.row HR6.out hbdg.out)
          have HB7 := hide (Only.below HB6.out ho7.out hg0.out)
          clear HQ6 HR6 HB6 HC6 hless
          go_cut [15, 16, 17] (fun sg _ _ wx => sg = .int .u64 (qd : Int) ∧ Below w.heap.size w wx ∧ Blk wx g 95 .u32 (mid i (fix B32 (n + 1) (U % D)) C) ∧ Blk wx gq 95 .u32 Q ∧ Hid (RowN wx .u32 bd od DD))
          case first =>
            by_cases hlt : U < G * D
            · have e : bl = true := by rw [hbl.out]; exact decide_eq_true hlt
              have hb1 : bor U (G * D) = 1 := if_pos hlt
              rw [hb1, Nat.one_mul] at hC7
              clear hbl hb1
              subst e
              replace hlt := hide hlt
              go_wp2_with fail
              go_loopw [15, 16, 17] (fun gs ag _ wx => ∃ (g1 V : Nat) (t : Bool), gs = .int .u64 (g1 : Int) ∧ ag = .bool t ∧ Below w.heap.size w wx ∧ Blk wx g 95 .u32 (mid i (fix B32 (n + 1) V) C) ∧ Blk wx gq 95 .u32 Q ∧ Hid (RowN wx .u32 bd od DD) ∧
                Hid (g1 < B32 ∧ (t = true → U < g1 * D ∧ V = U + B32 ^ (n + 1) - g1 * D) ∧ (t = false → g1 = U / D ∧ V = U % D))) (fun gs _ _ _ => (intOf gs).toNat)
              case atStart => exact ⟨G, _, true, rfl, rfl, HB7.out, hC7.out, HQ7.out, HR7, hG2, fun _ => ⟨hlt.out, rfl⟩, fun h => by cases h⟩
              case round =>
                clear HB7 hC7 HQ7 HR7 ho7
                obtain ⟨g1, V, t, rfl, rfl, hb8, hC8, hQ8, hR8, hV⟩ := hrel
                cases t with
                | false =>
                  obtain ⟨e1, e2⟩ := hV.out.2.2 rfl
                  replace e1 := hide e1
                  replace e2 := hide e2
                  replace hb8 := hide hb8
                  replace hC8 := hide hC8
                  replace hQ8 := hide hQ8
                  go_wp2_with fail
                  go_meet
                  exact ⟨by rw [e1.out, hqde.out], hb8.out, by rw [← e2.out]; exact hC8.out, hQ8.out, hR8⟩
                | true =>
                  obtain ⟨e1, e2⟩ := hV.out.2.1 rfl
                  have hg1 := hV.out.1
                  have hgp : 0 < g1 := by
                    rcases Nat.eq_zero_or_pos g1 with h | h
                    · rw [h, Nat.zero_mul] at e1; omega
                    · exact h
                  obtain ⟨k, rfl⟩ : ∃ k, g1 = k + 1 := ⟨g1 - 1, by omega⟩
                  obtain ⟨b1, b2, b3, b4, b5⟩ := back_step hD0 hDn.out hUB hg1 e1
                  rw [← e2] at b2 b3 b4 b5
                  have hCm : (mid i (fix B32 (n + 1) V) C).length = p + 2 := by rw [mid_length (by rw [fix_length]; exact hfit2.out)]; exact HI.out.2.1
                  have okm : Ok B32 (mid i (fix B32 (n + 1) V) C) := by unfold mid; exact (HI.out.1.take i).append ((fix_ok B32_pos _ _).append (HI.out.1.drop _))
                  have hbk := HBack.out (mid i (fix B32 (n + 1) V) C) i wr hC8 okm hCm (by have := hfit2.out; rw [HI.out.2.1] at this; exact this) hR8.out
                  rw [mid_win hfit2.out (fix_length _ _), val_fix_of_lt b2, mid_mid (by rw [fix_length]; exact hfit2.out) (by rw [fix_length, fix_length])] at hbk
                  have hm2C : m2 < p + 2 := by have := hfit2.out; rw [HI.out.2.1] at this; have := hm2.out; omega
                  have htop : ∀ Z, Z < B32 ^ (n + 1) → nth (mid i (fix B32 (n + 1) Z) C) m2 = Z / B32 ^ n := fun Z hZ => by
                    rw [hm2.out, nth_mid (by rw [fix_length]; exact hfit2.out) (by rw [fix_length]; omega), nth_fix_top hZ]
                  have hlenZ : ∀ Z, m2 < (mid i (fix B32 (n + 1) Z) C).length := fun Z => by rw [mid_length (by rw [fix_length]; exact hfit2.out), HI.out.2.1]; exact hm2C
                  have c8 := hC8.cell (i := m2) (hlenZ V)
                  rw [htop V b2] at c8
                  obtain ⟨V2, hV2⟩ : ∃ v, v = (V + D) % B32 ^ (n + 1) := ⟨_, rfl⟩
                  rw [← hV2] at hbk b3 b4 b5
                  have htop2 := htop V2 b3
                  obtain ⟨t0, ht0⟩ : ∃ v, v = V / B32 ^ n := ⟨_, rfl⟩
                  obtain ⟨t1, ht1⟩ : ∃ v, v = V2 / B32 ^ n := ⟨_, rfl⟩
                  rw [← ht0] at c8 b4 b5
                  rw [← ht1] at htop2 b4 b5
                  have hbk' := hide hbk
                  have hQ8' := hide hQ8
                  have hb8' := hide hb8
                  have htop2 := hide htop2
                  have hlen2 := hide (hlenZ V2)
                  have ek : IntKind.u64.wrap (((k + 1 : Nat) : Int) - 1) = (k : Int) := by rw [B32_eq] at hg1; rw [wrap_u] <;> omega
                  have ek2 : IntKind.u64.wrap (k : Int) = (k : Int) := by rw [B32_eq] at hg1; rw [wrap_u] <;> omega
                  have hkB := hide (show k < B32 by omega)
                  replace e1 := hide e1
                  replace e2 := hide e2
                  replace hV2 := hide hV2
                  replace ht0 := hide ht0
                  replace ht1 := hide ht1
                  clear hbk hQ8 hb8 hC8 okm hCm htop hlenZ b1 b2 b3 hgp hg1 hV
                  by_cases hk : U < k * D
                  · obtain ⟨f1, f2⟩ := b4 hk
                    have hd : decide (t0 ≤ t1) = true := decide_eq_true f2
                    replace f1 := hide f1
                    replace f2 := hide f2
                    replace hk := hide hk
                    clear b4 b5
                    go_wp2_with (go_at_call 143; refine hbk'.out.mono ?_; rintro e w9 ⟨⟨v, rfl⟩, hC9, ho9⟩; have c9 : w9.cell? ⟨g, m2, none⟩ = some (.int .u32 (t1 : Int))   := (by have h := hC9.cell (i := m2) hlen2.out; rw [htop2.out] at h; exact h); replace hC9 := hide hC9; replace ho9 := hide ho9)
                    exact ⟨⟨k, V2, true, rfl, rfl, Only.below hb8'.out ho9.out hg0.out, hC9.out, ho9.out.blk hQ8'.out hgqg.out, ho9.out.row hR8.out hbdg.out, hkB.out, fun _ => ⟨hk.out, f1.out⟩, fun h => by cases h⟩, by simp [intOf]⟩
                  · obtain ⟨f0, f1, f2⟩ := b5 hk
                    have hd : decide (t0 ≤ t1) = false := decide_eq_false f2
                    replace f0 := hide f0
                    replace f1 := hide f1
                    replace f2 := hide f2
                    replace hk := hide hk
                    clear b4 b5
                    go_wp2_with (go_at_call 143; refine hbk'.out.mono ?_; rintro e w9 ⟨⟨v, rfl⟩, hC9, ho9⟩; have c9 : w9.cell? ⟨g, m2, none⟩ = some (.int .u32 (t1 : Int))   := (by have h := hC9.cell (i := m2) hlen2.out; rw [htop2.out] at h; exact h); replace hC9 := hide hC9; replace ho9 := hide ho9)
                    exact ⟨⟨k, V2, false, rfl, rfl, Only.below hb8'.out ho9.out hg0.out, hC9.out, ho9.out.blk hQ8'.out hgqg.out, ho9.out.row hR8.out hbdg.out, hkB.out, fun h => (by cases h), fun _ => ⟨f0.out, f1.out⟩⟩, by simp [intOf]⟩
            · have e : bl = false := by rw [hbl.out]; exact decide_eq_false hlt
              have hb1 : bor U (G * D) = 0 := if_neg hlt
              obtain ⟨e1, e2⟩ := low_done (P := 0) hD0 (by omega : G * D ≤ U) (by rw [← hqde.out]; exact hG1)
              have e3 : U + 0 * B32 ^ (n + 1) - G * D = U % D := by rw [Nat.zero_mul]; exact e2
              rw [hb1, e3] at hC7
              clear e3
              clear hbl hb1
              subst e
              replace hlt := hide hlt
              replace e1 := hide e1
              replace e2 := hide e2
              go_wp2_with fail
              go_meet
              exact ⟨by rw [e1.out, hqde.out], HB7.out, hC7.out, HQ7.out, HR7⟩
          obtain ⟨rfl, hb10, hC10, hQ10, hR10⟩ := hcut
          have hQl := HI.out.2.2.2.2.2
          have hqc := hQ10.cell (i := i) (by rw [hQl]; omega)
          have hqf := hQ10.frozen i
          have ew : (qd : Int) % 4294967296 = (qd : Int) := by rw [B32_eq] at hqd; omega
          have hqd' := hide hqd
          have hQ11 := hide (hQ10.set_ i (E := (qd : Int)) (z := qd) rfl)
          have ho11 := hide ((Only.refl wc gq).set_ i (.int .u32 (qd : Int)))
          have hC11 := hide (ho11.out.blk hC10 (fun h => hgqg.out h.symm))
          have hR11 := hide (ho11.out.row hR10.out hbdq.out)
          have hB11 := hide (Only.below hb10 ho11.out hgq0.out)
          clear hb10 hC10 hQ10 hR10 HB7 HQ7 HR7 hC7 ho7 hqd hQl hbl
          go_wp2_with fail
          refine ⟨⟨i, mid i (fix B32 (n + 1) (U % D)) C, Q.set i qd, by omega, rfl, hB11.out, hC11.out, hQ11.out, hR11, ?_⟩, by simp [intOf]⟩
          exact ⟨HS.out.2.2.1, by rw [HS.out.2.2.2]; exact HI.out.2.1, HS.out.1, HS.out.2.1, Ok.set HI.out.2.2.2.2.1 hqd'.out, by rw [List.length_set]; exact HI.out.2.2.2.2.2⟩
        · obtain rfl : j = 0 := by omega
          obtain ⟨okC, hCl, hClt, hCX, okQ, hQl⟩ := hI.out
          have hval : val B32 C = a % b * 2 ^ s := by
            rw [Nat.pow_zero, Nat.mul_one] at hClt
            rw [← hmod.out, ← hCX, Nat.mod_eq_of_lt hClt]
          have htq := ntrim_any (some ⟨gq, 0, none⟩) J Q wr (fun _ => ⟨_, _, rfl, hQ.row0⟩) (by rw [hQl]; exact Nat.le_refl _) (by rw [hQl, hJ.out]; unfold lim; omega) okQ
          rw [hQl] at htq
          have htc := fun (W : World) (h : Blk W g 95 .u32 C) => ntrim_any (some ⟨g, 0, none⟩) (p + 2) C W (fun _ => ⟨_, _, rfl, h.row0⟩) (by rw [hCl]; exact Nat.le_refl _) (by rw [hCl]; unfold lim; omega) okC
          rw [hCl, hval] at htc
          have Htq := hide htq
          have Htc := hide htc
          have HC := hide hC
          have Hbw := hide hbw
          have hcl1 := hide (show (digs B32 (a % b * 2 ^ s)).length ≤ p + 2 from by
            rw [← hval]; refine digs_length_le B32_ge ?_; rw [← hCl]; exact val_lt okC)
          clear htq htc hC hbw hQ okC hCl hClt hCX okQ hQl hval hI hR
          by_cases hs0 : s = 0
          · subst hs0
            rw [Nat.pow_zero, Nat.mul_one] at Htc hcl1
            go_wp2_with (first
              | (go_at_call 62; refine (Htc.out w12 (HC.out.trans' hb12.out)).mono ?_; rintro e w13 ⟨A13, c13, rfl, hc13, hr13, hb13⟩; replace hc13 := hide hc13; replace hr13 := hide hr13; replace hb13 := hide hb13)
              | (go_at_call 62; refine Htq.out.mono ?_; rintro e w12 ⟨A12, c12, rfl, hc12, hr12, hb12⟩; replace hc12 := hide hc12; replace hr12 := hide hr12; replace hb12 := hide hb12))
            go_ret2
            exact retmod_mk rfl rfl hc13.out hr13.out (below_then (below_then Hbw.out Hbw.out.size hb12.out) (by have := Hbw.out.size; have := hb12.out.size; omega) hb13.out)
          · have hsi : ((s : Int) == 0) = false := by rw [beq_eq_false_iff_ne]; omega
            have Hsh := hide (fun (A : Option Addr) (c : Nat) (W : World) h1 h2 => nshr_any A c (a % b * 2 ^ s) s W hs32 h1 h2 (by have := hcl1.out; unfold lim; omega))
            rw [Nat.mul_div_cancel _ (Nat.pow_pos (by omega : 0 < 2))] at Hsh
            replace hs0 := hide hs0
            go_wp2_with (first
              | (go_at_call 81; refine (Hsh.out A13 c13 w13 hr13.out hc13.out).mono ?_; rintro e w14 ⟨A14, c14, rfl, hc14, hr14, hb14⟩; replace hc14 := hide hc14; replace hr14 := hide hr14; replace hb14 := hide hb14)
              | (go_at_call 62; refine (Htc.out w12 (HC.out.trans' hb12.out)).mono ?_; rintro e w13 ⟨A13, c13, rfl, hc13, hr13, hb13⟩; replace hc13 := hide hc13; replace hr13 := hide hr13; replace hb13 := hide hb13)
              | (go_at_call 62; refine Htq.out.mono ?_; rintro e w12 ⟨A12, c12, rfl, hc12, hr12, hb12⟩; replace hc12 := hide hc12; replace hr12 := hide hr12; replace hb12 := hide hb12))
            go_ret2
            exact retmod_mk rfl rfl hc14.out hr14.out (below_then (below_then (below_then Hbw.out Hbw.out.size hb12.out) (by have := Hbw.out.size; have := hb12.out.size; omega) hb13.out) (by have := Hbw.out.size; have := hb12.out.size; have := hb13.out.size; omega) hb14.out)
end Go.Proofs.Ytincemkjdgbnnaa

set_option linter.unusedVariables false
set_option linter.unusedSimpArgs false
namespace Go.Proofs.Ytincemkjdgbnnaa
open Go.RowKit Lm

set_option maxRecDepth 100000 in
set_option maxHeartbeats 1600000 in
theorem nmod_any (A A' : Option Addr) (c c' a b : Nat) (w : World) (hr : Rd w .u32 A (digs B32 a)) (hc : (digs B32 a).length ≤ c) (hlim : (digs B32 a).length ≤ 33554432)
    (hr' : Rd w .u32 A' (digs B32 b)) (hc' : (digs B32 b).length ≤ c') (hlim' : (digs B32 b).length ≤ 33554432) (hb0 : 0 < b) :
    Calls Try.prog 72 #[.slice A (digs B32 a).length c, .slice A' (digs B32 b).length c'] w (RetSl w .u32 (digs B32 (a % b))) := by
  have hdm : Calls Try.prog 121 #[.slice A (digs B32 a).length c, .slice A' (digs B32 b).length c'] w (RetMod w (a % b)) := by
    rcases Nat.lt_or_ge a b with h | h
    · exact ndivmod_small A A' c c' a b w hr hc (by omega) hr' (by omega) h
    · exact ndivmod_big A A' c c' a b w hr hc hlim hr' hc' hlim' hb0 h
  have Hdm := hide hdm
  clear hdm hr hr' hc hc' hlim hlim' hb0
  generalize a % b = r at *
  generalize digs B32 a = L at *
  generalize digs B32 b = M at *
  go_enter Try.func72, Try.ntmps72
  go_wp2_with (go_at_call 121; refine Hdm.out.mono ?_; rintro e w1 ⟨v, A1, c1, rfl, hc1, hr1, hb1⟩; replace hc1 := hide hc1; replace hr1 := hide hr1; replace hb1 := hide hb1)
  go_ret
  exact ⟨A1, c1, rfl, hc1.out, hr1.out, hb1.out⟩

theorem byte64_at (x i u : Nat) (hu : u < 8) : x / B64 ^ i % B64 / 2 ^ (8 * u) % 256 = x / 256 ^ (8 * i + u) % 256 := by
  have e : 256 ^ (8 * i + u) = B64 ^ i * 2 ^ (8 * u) := by
    rw [show (256 : Nat) = 2 ^ 8 from rfl, show B64 = 2 ^ 64 from rfl, ← Nat.pow_mul, ← Nat.pow_mul, ← Nat.pow_add]
    congr 1; omega
  rw [e, ← Nat.div_div_eq_div_mul]
  generalize x / B64 ^ i = q
  have e2 : B64 = 2 ^ (8 * u) * (256 * 2 ^ (56 - 8 * u)) := by
    rw [show (256 : Nat) = 2 ^ 8 from rfl, ← Nat.pow_add, ← Nat.pow_add, show B64 = 2 ^ 64 from rfl]; congr 1; omega
  rw [e2, Nat.mod_mul_right_div_self, Nat.mod_mod_of_dvd _ (Nat.dvd_mul_right 256 _)]

/-- the 48 bytes of a number, the highest first, as far as they are laid. -/
def by48 (x t : Nat) : List Nat := ((fix 256 48 x).drop t).reverse
theorem by48_end (x : Nat) : by48 x 48 = [] := by
  unfold by48; rw [List.drop_of_length_le (by rw [fix_length]; exact Nat.le_refl _)]; rfl
theorem by48_step {x t : Nat} (h : t < 48) : by48 x t = by48 x (t + 1) ++ [x / 256 ^ t % 256] := by
  unfold by48
  rw [List.drop_eq_getElem_cons (by rw [fix_length]; exact h), List.reverse_cons, fix_getElem]
theorem by48_length {x t : Nat} : (by48 x t).length ≤ 48 := by unfold by48; simp [fix_length]
theorem by48_ok (x t : Nat) : Ok 256 (by48 x t) := fun y hy => (fix_ok (B := 256) (by decide) 48 x) y (List.mem_of_mem_drop (List.mem_reverse.1 hy))
theorem be_by48 {x : Nat} (hx : x < B64 ^ 6) : be (by48 x 0) = x := by
  unfold be by48
  rw [List.reverse_reverse, List.drop_zero, val_fix_of_lt (by rw [show 256 ^ 48 = B64 ^ 6 from by decide +kernel]; exact hx)]

set_option maxRecDepth 100000 in
set_option maxHeartbeats 1600000 in
theorem rn_any (x : Nat) (w : World) (hx : x < B64 ^ 6) : Calls Try.prog 26 #[vE x] w (RetSl w .u32 (digs B32 x)) := by
  have hbe := hide (be_by48 hx)
  have Hx := hide hx
  clear hx
  go_enter Try.func26, Try.ntmps26
  go_wp2_with ((with_reducible refine boxT 24 (o := ⟨some 1, _, _, _, _, _⟩) ?_ (.tmp 0) ?_ (v := x) ?_ ?_); rfl; rfl; rfl; intro w1 b1 hv1 hn1)
  have Hv1 := hide hv1
  have Hn1 := hide hn1
  clear hv1 hn1
  go_loopw [3, 4, 5] (fun v k _ wr => ∃ j : Nat, j ≤ 6 ∧ k = .int .i64 ((j : Int) - 1) ∧ Below w1.heap.size w1 wr ∧ Own wr w1.heap.size .u8 5 v (by48 x (8 * j))) (fun _ k _ _ => (intOf k + 1).toNat)
  case atStart => exact ⟨6, Nat.le_refl _, rfl, Below.refl _ _, by rw [by48_end]; exact Own.nil _ _ _ _⟩
  case round =>
    obtain ⟨j, hj, rfl, hbw, hown⟩ := hrel
    have Hbw := hide hbw
    have Hown := hide hown
    clear hbw hown
    by_cases h0 : 0 < j
    · obtain ⟨i, rfl⟩ : ∃ i, j = i + 1 := ⟨j - 1, by omega⟩
      rw [show ((i + 1 : Nat) : Int) - 1 = (i : Int) by omega]
      have hi := hide hj
      clear hj
      go_wp2_with fail
      go_loopw [3, 5] (fun v kk wr => ∃ t : Nat, t ≤ 8 ∧ kk = .int .i64 ((t : Int) - 1) ∧ Below w1.heap.size w1 wr ∧ Own wr w1.heap.size .u8 5 v (by48 x (8 * i + t))) (fun _ kk _ => (intOf kk + 1).toNat)
      case atStart => exact ⟨8, Nat.le_refl _, rfl, Hbw.out, Hown.out⟩
      case round =>
        clear Hbw Hown
        obtain ⟨t, ht, rfl, hbw, hown⟩ := hrel
        by_cases ht0 : 0 < t
        · obtain ⟨u, rfl⟩ : ∃ u, t = u + 1 := ⟨t - 1, by omega⟩
          rw [show ((u + 1 : Nat) : Int) - 1 = (u : Int) by omega]
          have hcell := (Hv1.out.to_blk.trans' hbw).cell (i := i) (by rw [fix_length]; have := hi.out; omega)
          rw [nth_fix (by have := hi.out; omega)] at hcell
          obtain ⟨y, hy⟩ : ∃ y, y = x / B64 ^ i % B64 := ⟨_, rfl⟩
          obtain ⟨d, hd⟩ : ∃ d, d = x / 256 ^ (8 * i + u) % 256 := ⟨_, rfl⟩
          have hyd := byte64_at x i u (by omega)
          rw [← hy, ← hd] at hyd
          rw [← hy] at hcell
          have hst := hide (by48_step (x := x) (t := 8 * i + u) (by have := hi.out; omega))
          rw [← hd] at hst
          have hE : (y : Int) / 2 ^ (8 * u) % 256 = (d : Int) := by rw [← hyd]; simp
          replace hy := hide hy
          replace hd := hide hd
          replace hyd := hide hyd
          obtain ⟨A', c', rfl, hc', hrd⟩ := hown.slice
          obtain ⟨v', w', hrun, hown2, hbw2⟩ := app_one (d := d) hown (Nat.le_trans by48_length (by decide)) hbw.size
          have Hrun := hide hrun
          have Hown2 := hide hown2
          have Hbw2 := hide (hbw.trans hbw2)
          clear hrun hown2 hbw2 hrd hc' hbw hown
          have i1 : (i : Int) < 6 := by have := hi.out; omega
          have i2 := wrap_in (8 * (u : Int)) (by omega) (by omega)
          have i3 := wrap_in ((u : Int) - 1) (by omega) (by omega)
          generalize (by48 x (8 * i + (u + 1))).length = m at *
          go_wp2_with (at_builtin; refine wpList_app rfl _ _ _ rfl rfl rfl Hrun.out ?_)
          exact ⟨⟨u, by omega, by simp, Hbw2.out, by rw [hst.out]; exact Hown2.out⟩, by simp [intOf]⟩
        · obtain rfl : t = 0 := by omega
          have i3 := wrap_in ((i : Int) - 1) (by have := hi.out; omega) (by have := hi.out; omega)
          have Hbw2 := hide hbw
          have Hown2 := hide hown
          clear hbw hown
          go_wp2_with fail
          exact ⟨⟨i, by have := hi.out; omega, by simp, Hbw2.out, Hown2.out⟩, by simp [intOf]⟩
    · obtain rfl : j = 0 := by omega
      obtain ⟨A', c', rfl, hc', hrd⟩ := Hown.out.slice
      have hfrom := hide (nfrom_any A' c' (by48 x 0) wr hrd hc' (Nat.le_trans by48_length (by decide)) (by48_ok x 0))
      rw [hbe.out] at hfrom
      clear hrd hc'
      go_wp2_with (go_at_call 16; refine hfrom.out.mono ?_; rintro e w5 ⟨A5, c5, rfl, hc5, hr5, hb5⟩; replace hc5 := hide hc5; replace hr5 := hide hr5; replace hb5 := hide hb5)
      go_ret
      exact retsl_mk (below_next (below_next Hn1.out.bl Hbw.out) hb5.out) rfl hc5.out hr5.out
end Go.Proofs.Ytincemkjdgbnnaa

set_option linter.unusedVariables false
set_option linter.unusedSimpArgs false
namespace Go.Proofs.Ytincemkjdgbnnaa
open Go.RowKit Lm

/-- a slice that reads as l. -/
def SlIs (k : IntKind) (l : List Nat) (v : Value) (w : World) : Prop := ∃ A c, v = .slice A l.length c ∧ l.length ≤ c ∧ Rd w k A l
theorem SlIs.st {k : IntKind} {l : List Nat} : ∀ (v : Value) (w w' : World), SlIs k l v w → Below w.heap.size w w' → SlIs k l v w' := fun v w w' ⟨A, c, h1, h2, h3⟩ hb => ⟨A, c, h1, h2, h3.below hb⟩
theorem wp_callS {P : Program} {o : Oper} {a : Act} {w : World} {Q : Exit → Act → World → Prop} {K : Act → World → Prop} {f : FuncId} {k : IntKind} {l : List Nat} (args args' : Array Value) (hrun : (execOp a.eval o).run P w = .ok (.enter f args) w) (ha : args = args')
    (hc : Calls P f args' w (RetSl w k l)) (h : ∀ v w', SlIs k l v w' → Below w.heap.size w w' → K (a.put o.dst v) w') : o.wp P a w K Q :=
  wp_callC args args' hrun ha hc fun _ w' ⟨A, c, h1, h2, h3, h4⟩ => ⟨_, h1, h _ w' ⟨A, c, rfl, h2, h3⟩ h4⟩

set_option maxRecDepth 100000 in
set_option maxHeartbeats 1600000 in
theorem rred_any (Af A : Option Addr) (P cf sz c a : Nat) (w : World) (hrP : Rd w .u32 Af (digs B32 P)) (hcf : (digs B32 P).length ≤ cf) (hPl : (digs B32 P).length ≤ 33554432) (hP0 : 0 < P)
    (hr : Rd w .u32 A (digs B32 a)) (hc : (digs B32 a).length ≤ c) (hlim : (digs B32 a).length ≤ 33554432) :
    Calls Try.prog 25 #[.agg (vF Af P cf sz).toArray, .slice A (digs B32 a).length c] w (RetSl w .u32 (digs B32 (a % P))) := by
  have Hmod := hide (fun W h1 h2 => nmod_any A Af c cf a P W h1 hc hlim h2 hcf hPl hP0)
  have Hr := hide hr
  have HrP := hide hrP
  have hvF : vF Af P cf sz = [.slice Af (digs B32 P).length cf, .int .i64 (sz : Int)] := rfl
  rw [hvF]
  clear hr hrP hcf hPl hP0 hc hlim hvF
  generalize a % P = r at *
  generalize digs B32 a = L at *
  generalize digs B32 P = M at *
  go_enter Try.func25, Try.ntmps25
  go_wp2_with (first
    | ((with_reducible refine wpList_box (o := ⟨some 2, _, _, _, _, _⟩) ?_ 32 (.tmp 0) ?_ [.slice Af M.length cf, .int .i64 (sz : Int)] ?_ ?_); rfl; rfl; rfl; intro w1 b1 h1 hv1 h3 h4; have hn1 : New w w1 b1 := ⟨by rw [h1]; exact Nat.le_refl _, by rw [h4]; omega, h3⟩; have r0 : w1.cell? ⟨b1, 0, none⟩ = some (.slice Af M.length cf) := hv1.cell 0; clear h1 h3 h4 hv1; replace hn1 := hide hn1)
    | (go_at_call 72; refine (Hmod.out w1 (Hr.out.below hn1.out.bl) (HrP.out.below hn1.out.bl)).mono ?_; rintro e w2 ⟨A2, c2, rfl, hc2, hr2, hb2⟩; replace hc2 := hide hc2; replace hr2 := hide hr2; replace hb2 := hide hb2))
  go_ret
  exact retsl_mk (below_next hn1.out.bl hb2.out) rfl hc2.out hr2.out

set_option maxRecDepth 100000 in
set_option maxHeartbeats 1600000 in
theorem rmul_any (Af A A' : Option Addr) (P cf sz c c' x y : Nat) (w : World) (hrP : Rd w .u32 Af (digs B32 P)) (hcf : (digs B32 P).length ≤ cf) (hPl : (digs B32 P).length ≤ 33554432) (hP0 : 0 < P)
    (hr : Rd w .u32 A (digs B32 x)) (hc : (digs B32 x).length ≤ c) (hr' : Rd w .u32 A' (digs B32 y)) (hc' : (digs B32 y).length ≤ c') (hl : (digs B32 (x * y)).length ≤ 33554432) (hlx : (digs B32 x).length < 1073741824) (hly : (digs B32 y).length < 1073741824) :
    Calls Try.prog 28 #[.agg (vF Af P cf sz).toArray, .slice A (digs B32 x).length c, .slice A' (digs B32 y).length c'] w (RetSl w .u32 (digs B32 (x * y % P))) := by
  have Hmul := hide (fun W h1 h2 => nmul_any A A' c c' x y W h1 hc hlx h2 hc' hly)
  have Hmod := hide (fun A9 c9 W h1 h2 h3 => nmod_any A9 Af c9 cf (x * y) P W h1 h2 hl h3 hcf hPl hP0)
  have Hr := hide hr
  have Hr' := hide hr'
  have HrP := hide hrP
  have hvF : vF Af P cf sz = [.slice Af (digs B32 P).length cf, .int .i64 (sz : Int)] := rfl
  rw [hvF]
  clear hr hrP hcf hPl hP0 hc hr' hc' hl hlx hly hvF
  generalize x * y % P = r at *
  generalize x * y = z at *
  generalize digs B32 x = L at *
  generalize digs B32 y = M at *
  generalize digs B32 P = DP at *
  generalize digs B32 z = Z at *
  go_enter Try.func28, Try.ntmps28
  go_upto_region 1 with ((with_reducible refine wpList_box (o := ⟨some 3, _, _, _, _, _⟩) ?_ 32 (.tmp 0) ?_ [.slice Af DP.length cf, .int .i64 (sz : Int)] ?_ ?_); rfl; rfl; rfl; intro w1 b1 h1 hv1 h3 h4; have hn1 : New w w1 b1 := ⟨by rw [h1]; exact Nat.le_refl _, by rw [h4]; omega, h3⟩; clear h1 h3 h4; replace hv1 := hide hv1; replace hn1 := hide hn1)
  refine region_do 6 13 [fun v _ => v = .slice A L.length c, fun v _ => v = .slice A' M.length c', fun v w => SlIs .u32 Z v w, fun v _ => v = .pointer (some ⟨b1, 0, none⟩), fun v _ => v = .slice Af DP.length cf, fun v w => SlIs .u32 (digs B32 r) v w]
    [(1, .slice A L.length c), (2, .slice A' M.length c'), (3, .pointer (some ⟨b1, 0, none⟩))] (fun w' => Rd w' .u32 A L ∧ Rd w' .u32 A' M ∧ VB w' b1 32 [.slice Af DP.length cf, .int .i64 (sz : Int)] ∧ Rd w' .u32 Af DP) (fun w' => True) 999 none (by kernel_rfl) (by kernel_rfl) rfl rfl
    (.cons (Fact.eq _) rfl (.cons (Fact.eq _) rfl (.cons (SlIs.st) rfl (.cons (Fact.eq _) rfl (.cons (Fact.eq _) rfl (.cons (SlIs.st) rfl (.nil _))))))) (fun w' h => ⟨(Hr.out.below hn1.out.bl).below h, (Hr'.out.below hn1.out.bl).below h, hv1.out.next h, (HrP.out.below hn1.out.bl).below h⟩) (fun w' h => trivial) (by kernel_rfl) ⟨rfl, rfl, rfl, trivial⟩ (.cons ?_ (.cons ?_ (.cons ?_ (.cons ?_ (.cons ?_ (.cons ?_ .nil)))))) ?_
  · refine Obl.plain rfl _ rfl rfl [] (by kernel_rfl) fun a W hF hC hD K hK => ?_
    have e1 : a.tmps.getD 1 undef = .slice A L.length c := hF.1
    clear hF hD hC
    go_simp
    exact hK _ _ rfl (Below.refl _ _)
  · refine Obl.plain rfl _ rfl rfl [] (by kernel_rfl) fun a W hF hC hD K hK => ?_
    have e2 : a.tmps.getD 2 undef = .slice A' M.length c' := hF.2.1
    clear hF hD hC
    go_simp
    exact hK _ _ rfl (Below.refl _ _)
  · refine Obl.plain rfl _ rfl rfl [0, 1] (by kernel_rfl) fun a W hF hC hD K hK => ?_
    obtain ⟨c1, c2, c3, c4⟩ := hC
    have e7 : a.tmps.getD 7 undef = .slice A L.length c := hD.1
    have e8 : a.tmps.getD 8 undef = .slice A' M.length c' := hD.2.1
    clear hF hD
    exact wp_callS #[a.tmps.getD 7 undef, a.tmps.getD 8 undef] #[.slice A L.length c, .slice A' M.length c'] (by kernel_rfl) (by rw [e7, e8]) (Hmul.out W c1 c2) (fun v w' h hb => hK _ _ h hb)
  · refine Obl.plain rfl _ rfl rfl [] (by kernel_rfl) fun a W hF hC hD K hK => ?_
    have e3 : a.tmps.getD 3 undef = .pointer (some ⟨b1, 0, none⟩) := hF.2.2.1
    clear hF hD hC
    go_simp
    exact hK _ _ rfl (Below.refl _ _)
  · refine Obl.plain rfl _ rfl rfl [3] (by kernel_rfl) fun a W hF hC hD K hK => ?_
    obtain ⟨c1, c2, c3, c4⟩ := hC
    have e10 : a.tmps.getD 10 undef = .pointer (some ⟨b1, 0, none⟩) := hD.1
    clear hF hD
    have f0 : W.cell? ⟨b1, 0, none⟩ = some (.slice Af DP.length cf) := c3.cell 0
    go_simp
    exact hK _ _ rfl (Below.refl _ _)
  · refine Obl.plain rfl _ rfl rfl [2, 4, 2] (by kernel_rfl) fun a W hF hC hD K hK => ?_
    obtain ⟨c1, c2, c3, c4⟩ := hC
    have e9 : (fun (v : Value) (w : World) => SlIs .u32 Z v w) (a.tmps.getD 9 undef) W := hD.1
    have e11 : a.tmps.getD 11 undef = .slice Af DP.length cf := hD.2.1
    clear hF hD
    obtain ⟨A9, c9, q9, hc9, hr9⟩ := e9
    exact wp_callS #[a.tmps.getD 9 undef, a.tmps.getD 11 undef] #[.slice A9 Z.length c9, .slice Af DP.length cf] (by kernel_rfl) (by rw [q9, e11]) (Hmod.out A9 c9 W hr9 hc9 c4) (fun v w' h hb => hK _ _ h hb)
  rintro w2 hB2 hC2 _ rfl _ rfl v9 g9 _ rfl _ rfl v12 g12
  change Below _ _ _ at hB2
  change wpList _ _ _ _ _ _
  simp only [List.drop_succ_cons, List.drop_zero, Act.put, List.setIfInBounds_toArray, List.set_cons_zero, List.set_cons_succ]
  obtain ⟨A12, c12, rfl, hc12, hr12⟩ := g12
  replace hc12 := hide hc12
  replace hr12 := hide hr12
  replace hB2 := hide hB2
  clear g9 hC2
  go_wp2_with fail
  go_ret
  exact retsl_mk (below_next hn1.out.bl hB2.out) rfl hc12.out hr12.out
end Go.Proofs.Ytincemkjdgbnnaa
