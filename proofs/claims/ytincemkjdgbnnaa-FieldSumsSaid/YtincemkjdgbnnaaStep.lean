/- Walks: package limb, one step of a long division. -/
import Derived.Test.YtincemkjdgbnnaaDiv
set_option linter.unusedVariables false
set_option linter.unusedSimpArgs false
namespace Go.Proofs.Ytincemkjdgbnnaa
open Go.RowKit Lm

/-- the list L with X laid over it from place off on. -/
def mid (off : Nat) (X L : List Nat) : List Nat := L.take off ++ (X ++ L.drop (off + X.length))
section
variable {off : Nat} {X L : List Nat}
theorem mid_length (h : off + X.length ≤ L.length) : (mid off X L).length = L.length := by simp [mid]; omega
theorem nth_mid {i : Nat} (h : off + X.length ≤ L.length) (hi : i < X.length) : nth (mid off X L) (off + i) = nth X i := by
  rw [mid, nth_append_right (by rw [List.length_take]; omega), List.length_take, Nat.min_eq_left (by omega), Nat.add_sub_cancel_left, nth_append_left hi]
theorem mid_set {i d : Nat} (h : off + X.length ≤ L.length) (hi : i < X.length) : (mid off X L).set (off + i) d = mid off (X.set i d) L := by
  rw [mid, List.set_append_right _ _ (by rw [List.length_take]; omega), List.length_take, Nat.min_eq_left (by omega), Nat.add_sub_cancel_left, List.set_append_left _ _ hi, mid, List.length_set]
theorem mid_self {m : Nat} (h : off + m ≤ L.length) : mid off ((L.drop off).take m) L = L := by
  have hl : ((L.drop off).take m).length = m := by simp; omega
  rw [mid, hl, ← List.drop_drop, List.take_append_drop, List.take_append_drop]
theorem nth_mid_lt {j : Nat} (h : off + X.length ≤ L.length) (hj : j < off) : nth (mid off X L) j = nth L j := by
  rw [mid, nth_append_left (by rw [List.length_take]; omega), nth_take hj]
theorem nth_mid_ge {i : Nat} (h : off + X.length ≤ L.length) (hi : X.length ≤ i) : nth (mid off X L) (off + i) = nth L (off + i) := by
  rw [mid, nth_append_right (by rw [List.length_take]; omega), List.length_take, Nat.min_eq_left (by omega), Nat.add_sub_cancel_left, nth_append_right hi, nth_drop]
  congr 1; omega
theorem mid_mid {Y : List Nat} (h : off + X.length ≤ L.length) (hl : Y.length = X.length) : mid off Y (mid off X L) = mid off Y L := by
  apply List.ext_getElem
  · rw [mid_length (by rw [mid_length h]; omega), mid_length h, mid_length (by omega)]
  · intro j h1 h2
    rw [← nth_of_lt h1, ← nth_of_lt h2]
    rw [mid_length (by omega)] at h2
    rcases Nat.lt_or_ge j off with hj | hj
    · rw [nth_mid_lt (by rw [mid_length h]; omega) hj, nth_mid_lt h hj, nth_mid_lt (by omega) hj]
    · obtain ⟨i, rfl⟩ : ∃ i, j = off + i := ⟨j - off, by omega⟩
      rcases Nat.lt_or_ge i Y.length with hi | hi
      · rw [nth_mid (by rw [mid_length h]; omega) hi, nth_mid (by omega) hi]
      · rw [nth_mid_ge (by rw [mid_length h]; omega) hi, nth_mid_ge h (by omega), nth_mid_ge (by omega) hi]
end

/-! the guess -/
theorem guess_ge {M Lu : List Nat} {n : Nat} (hM : Ok B64 M) (hL : Ok B64 Lu) (hn : M.length = n + 1) (hLn : Lu.length = n + 2) (hv : 0 < nth M n) :
    val B64 Lu / val B64 M ≤ (nth Lu (n + 1) * B64 + nth Lu n) / nth M n := by
  have hP : 0 < B64 ^ n := Nat.pow_pos B64_pos
  have h1 : val B64 M = val B64 (M.take n) + B64 ^ n * nth M n := by rw [← vt_succ M n (by omega), vt_full M (by omega)]
  have h2 : val B64 Lu = val B64 (Lu.take n) + B64 ^ n * (nth Lu n + B64 * nth Lu (n + 1)) := by
    rw [← vt_full (B := B64) Lu (i := n + 2) (by omega), vt_succ Lu (n + 1) (by omega), vt_succ Lu n (by omega), Nat.pow_succ, Nat.mul_add, Nat.mul_assoc]; omega
  have h3 := vt_lt hL B64_pos n
  have h4 : val B64 Lu / B64 ^ n = nth Lu n + B64 * nth Lu (n + 1) := by
    rw [h2, Nat.add_mul_div_left _ _ hP, Nat.div_eq_of_lt h3, Nat.zero_add]
  have h5 : val B64 Lu / val B64 M ≤ val B64 Lu / (B64 ^ n * nth M n) := Nat.div_le_div_left (by omega) (Nat.mul_pos hP hv)
  rw [← Nat.div_div_eq_div_mul, h4] at h5
  rw [Nat.mul_comm (nth Lu (n + 1)), Nat.add_comm]
  exact h5

/-! one digit of the product -/
theorem prod_digit {g v c : Nat} (hg : g < B64) (hv : v < B64) (hc : c < B64) :
    ad1 (ml1 g v) c 0 = (c + g * v) % B64 ∧ mh1 g v + cy1 (ml1 g v) c 0 = (c + g * v) / B64 ∧ (c + g * v) / B64 < B64 := by
  have h1 : g * v ≤ (B64 - 1) * (B64 - 1) := Nat.mul_le_mul (by omega) (by omega)
  have h2 : (B64 - 1) * (B64 - 1) + B64 ≤ B64 * B64 := by decide
  unfold ad1 ml1 mh1 cy1
  generalize g * v = p at *
  have hp := Nat.div_add_mod p B64
  have hm := Nat.mod_lt p B64_pos
  refine ⟨?_, ?_, ?_⟩
  · rw [Nat.add_zero, Nat.mod_add_mod, Nat.add_comm]
  · rw [Nat.add_zero]
    generalize p / B64 = a at *
    generalize p % B64 = b at *
    have : c + p = B64 * a + (b + c) := by omega
    rw [this, Nat.mul_add_div B64_pos]
  · rw [Nat.div_lt_iff_lt_mul B64_pos]; omega
theorem carry_lt {g V i : Nat} (hg : g < B64) (hV : V < B64 ^ i) : g * V / B64 ^ i < B64 := by
  rw [Nat.div_lt_iff_lt_mul (Nat.pow_pos B64_pos)]
  exact Nat.mul_lt_mul'' hg hV


theorem add_back {U V P q : Nat} (h : U < (q + 1) * V) (hU : U < P) (hq : (q + 1) * V ≤ P) (hV : 0 < V) :
    (sb P U ((q + 1) * V) + V) % P = sb P U (q * V) ∧ (sb P U ((q + 1) * V) + V) / P = 1 - bo U (q * V) := by
  rw [Nat.succ_mul] at h hq ⊢
  generalize q * V = a at *
  unfold sb bo
  rw [if_pos h]
  by_cases h1 : U < a
  · rw [if_pos h1, show U + 1 * P - (a + V) + V = U + 1 * P - a by omega]
    exact ⟨Nat.mod_eq_of_lt (by omega), by rw [Nat.div_eq_of_lt (by omega)]⟩
  · rw [if_neg h1, show U + 1 * P - (a + V) + V = (U - a) + P by omega, Nat.add_mod_right, Nat.add_div_right _ (by omega), Nat.mod_eq_of_lt (by omega), Nat.div_eq_of_lt (by omega)]
    exact ⟨by omega, by omega⟩

/-- the guess of a digit, in a slot. -/
def Guess (U V : Nat) (w : World) (s : Value) (wx : World) : Prop := ∃ g : Nat, s = .int .u64 (g : Int) ∧ U / V ≤ g ∧ g < B64 ∧ ∃ k, wx = w.drewN k

theorem div64_ret (hi lo y : Nat) (W : World) (hy : 2 ^ 63 ≤ y) (hyB : y < B64) (hh : hi < y) (hlo : lo < B64) (Q R : Nat) (hQ : Q = (hi * B64 + lo) / y) (hR : R = (hi * B64 + lo) % y) :
    Calls Try.prog 140 #[.int .u64 (hi : Int), .int .u64 (lo : Int), .int .u64 (y : Int)] W fun e w' =>
      e = .returned (.tuple #[.int .u64 (Q : Int), .int .u64 (R : Int)]) ∧ ∃ k, w' = W.drewN k := by subst hQ; subst hR; exact div64_all hi lo y W hy hyB hh hlo

set_option maxRecDepth 100000 in
set_option maxHeartbeats 3200000 in
theorem step_any (bu off c bv ov c' : Nat) (tu : TypeId) (L M : List Nat) (n : Nat) (w : World) (hL : Blk w bu tu .u64 L) (hokL : Ok B64 L) (hfit : off + (n + 2) ≤ L.length) (hc : n + 2 ≤ c)
    (hM : RowN w .u64 bv ov M) (hokM : Ok B64 M) (hMl : M.length = n + 1) (hne : bv ≠ bu) (hn : n < lim) (htop : 2 ^ 63 ≤ nth M n)
    (hlt : val B64 ((L.drop off).take (n + 2)) < val B64 M * B64) :
    Calls Try.prog 117 #[.slice (some ⟨bu, off, none⟩) (n + 2) c, .slice (some ⟨bv, ov, none⟩) (n + 1) c'] w fun e w' =>
      e = .returned (.int .u64 ((val B64 ((L.drop off).take (n + 2)) / val B64 M : Nat) : Int)) ∧
      Blk w' bu tu .u64 (mid off (fix B64 (n + 2) (val B64 ((L.drop off).take (n + 2)) % val B64 M)) L) ∧ Only w w' bu := by
  unfold lim at hn
  obtain ⟨Lu, hLu⟩ : ∃ X, X = (L.drop off).take (n + 2) := ⟨_, rfl⟩
  have hLul : Lu.length = n + 2 := by rw [hLu]; simp; omega
  have hokU : Ok B64 Lu := by rw [hLu]; exact (hokL.drop _).take _
  have hmid : mid off Lu L = L := by rw [hLu]; exact mid_self hfit
  have hcU : ∀ i, i < n + 2 → nth L (off + i) = nth Lu i := fun i hi => by rw [hLu, nth_take hi, nth_drop]
  rw [← hLu] at hlt ⊢
  obtain ⟨U, hU⟩ : ∃ U, U = val B64 Lu := ⟨_, rfl⟩
  obtain ⟨V, hV⟩ : ∃ V, V = val B64 M := ⟨_, rfl⟩
  have HUv := hide hU.symm
  have HVv := hide hV.symm
  rw [← hU, ← hV] at hlt ⊢
  have hVp : 0 < V := by
    rcases Nat.eq_zero_or_pos V with h | h
    · rw [h] at hlt; omega
    · exact h
  have hVB : V < B64 ^ (n + 1) := by rw [hV, ← hMl]; exact val_lt hokM
  have hQB : U / V < B64 := (Nat.div_lt_iff_lt_mul hVp).2 (by rw [Nat.mul_comm]; exact hlt)
  have c1 := hL.cell (i := off + (n + 1)) (by omega)
  have c2 := hL.cell (i := off + n) (by omega)
  have c3 := hM n (by omega)
  rw [hcU _ (by omega)] at c1
  rw [hcU _ (by omega)] at c2
  have hun := Ok.getD B64_pos hokU (n + 1)
  have hum := Ok.getD B64_pos hokU n
  have hvn := Ok.getD B64_pos hokM n
  change nth Lu (n + 1) < B64 at hun
  change nth Lu n < B64 at hum
  change nth M n < B64 at hvn
  have hguess := hide (guess_ge hokM hokU hMl hLul (by omega))
  rw [← hU, ← hV] at hguess
  have HL := hide hL
  have HM := hide hM
  have HMl := hide hMl
  have HLul := hide hLul
  have Hmid := hide hmid
  have Hlt := hide hlt
  clear hLu hU hV hL hM hcU hlt hMl hLul hmid
  have i1 : (n : Int) + 1 + 1 = (n + 2 : Int) := by omega
  go_enter Try.func117, Try.ntmps117
  go_wp2_with fail
  have j1 : (n : Int) + 1 < (n : Int) + 2 := by omega
  have j2 : IntKind.i64.wrap ((n : Int) + 1 - 1) = (n : Int) := by rw [wrap_in] <;> omega
  go_quiet (fail)
  go_upto_if 26 with fail
  go_cut [6] (fun s wx => Guess U V w s wx)
  case first =>
    by_cases hb : nth Lu (n + 1) < nth M n
    · have hd : decide (nth Lu (n + 1) < nth M n) = true := by simp [hb]
      have hq : (nth Lu (n + 1) * B64 + nth Lu n) / nth M n < B64 := by
        rw [Nat.div_lt_iff_lt_mul (by omega)]
        have : (nth Lu (n + 1) + 1) * B64 ≤ nth M n * B64 := Nat.mul_le_mul_right _ hb
        rw [Nat.succ_mul] at this
        rw [Nat.mul_comm B64]; omega
      have HQ := hide hq
      have HC := hide (fun W => div64_ret (nth Lu (n + 1)) (nth Lu n) (nth M n) W htop hvn hb hum _ _ rfl rfl)
      go_wp2_with fail
      go_quiet ((go_at_call 140; first | exact quiet_dr HC.out | exact quiet_dr0 HC.out))
      go_wp2_with fail
      go_meet
      exact ⟨_, rfl, hguess.out, HQ.out, _, World.drewN_drewN _ _ _⟩
    · have hd : decide (nth Lu (n + 1) < nth M n) = false := by simp [hb]
      go_wp2_with fail
      go_meet
      exact ⟨B64 - 1, by rw [B64_eq]; rfl, by omega, by decide, _, rfl⟩
  obtain ⟨g, rfl, hg1, hg2, kd, rfl⟩ := hcut
  have HL1 : Hid (Blk (w.drewN kd) bu tu .u64 L) := HL.out
  have HM1 : Hid (RowN (w.drewN kd) .u64 bv ov M) := HM.out
  have HO1 : Hid (Only w (w.drewN kd) bu) := (Only.refl w bu).drewN kd
  clear c1 c2 c3 hun hum hvn hguess HL HM
  generalize w.drewN kd = w1 at *
  go_wp2_with fail
  go_loopw [7, 8, 9, 10, 11, 12, 47] (fun b_ cy _ _ _ _ k wr => ∃ i : Nat, i ≤ n + 1 ∧ k = .int .i64 i ∧ b_ = .int .u64 (bo (val B64 (Lu.take i)) (g * val B64 (M.take i) % B64 ^ i) : Int) ∧
    cy = .int .u64 ((g * val B64 (M.take i) / B64 ^ i : Nat) : Int) ∧ Only w1 wr bu ∧
    Blk wr bu tu .u64 (mid off (ch B64 i (sb (B64 ^ i) (val B64 (Lu.take i)) (g * val B64 (M.take i) % B64 ^ i)) Lu) L)) (fun _ _ _ _ _ _ k _ => n + 1 - (intOf k).toNat)
  case atStart =>
    exact ⟨0, Nat.zero_le _, rfl, by simp [bo], by simp, Only.refl _ _, by rw [ch_zero, Hmid.out]; exact HL1.out⟩
  case round =>
    obtain ⟨i, hi, rfl, rfl, rfl, hon, hblk⟩ := hrel
    have hPp : 0 < B64 ^ i := Nat.pow_pos B64_pos
    have ha := vt_lt hokU B64_pos i
    have hb' : g * val B64 (M.take i) % B64 ^ i < B64 ^ i := Nat.mod_lt _ hPp
    have hbo := bo_le (val B64 (Lu.take i)) (g * val B64 (M.take i) % B64 ^ i)
    have hsb := sb_lt ha hb'
    have hcl : (ch B64 i (sb (B64 ^ i) (val B64 (Lu.take i)) (g * val B64 (M.take i) % B64 ^ i)) Lu).length = n + 2 := by rw [ch_length (by rw [HLul.out]; omega), HLul.out]
    have hk := carry_lt hg2 (vt_lt hokM B64_pos i)
    by_cases hlt : i < n + 1
    · have hrow2 := hon.row HM1.out hne
      have hcell := hrow2 i (by rw [HMl.out]; exact hlt)
      have hx : nth Lu i < B64 := Ok.getD B64_pos hokU _
      have hy : nth M i < B64 := Ok.getD B64_pos hokM _
      have hcell2 := hblk.cell (i := off + i) (by rw [mid_length (by rw [hcl]; exact hfit)]; omega)
      rw [nth_mid (by rw [hcl]; exact hfit) (by rw [hcl]; omega), nth_ch (Nat.le_refl _)] at hcell2
      have hfr := hblk.frozen (off + i)
      obtain ⟨pd1, pd2, pd3⟩ := prod_digit hg2 hy hk
      have hT : g * val B64 (M.take (i + 1)) = g * val B64 (M.take i) + B64 ^ i * (g * nth M i) := by
        rw [vt_succ', Nat.mul_add, Nat.mul_left_comm]
      have HN2 := hide (show (g * val B64 (M.take i) / B64 ^ i + g * nth M i) / B64 = g * val B64 (M.take (i + 1)) / B64 ^ (i + 1) by rw [hT, Nat.pow_succ, carry_div hPp])
      have hP1 : g * val B64 (M.take (i + 1)) % B64 ^ (i + 1) = g * val B64 (M.take i) % B64 ^ i + B64 ^ i * ad1 (ml1 g (nth M i)) (g * val B64 (M.take i) / B64 ^ i) 0 := by
        rw [hT, Nat.pow_succ, carry_mod, pd1]
      have HN1 := hide (show bo1 (nth Lu i) (ad1 (ml1 g (nth M i)) (g * val B64 (M.take i) / B64 ^ i) 0) (bo (val B64 (Lu.take i)) (g * val B64 (M.take i) % B64 ^ i)) =
          bo (val B64 (Lu.take (i + 1))) (g * val B64 (M.take (i + 1)) % B64 ^ (i + 1)) by
        rw [vt_succ', hP1, bo_step ha hb']; rfl)
      have HB := hide (show Blk (wr.setCell ⟨bu, off + i, none⟩ (.int .u64 (df1 (nth Lu i) (ad1 (ml1 g (nth M i)) (g * val B64 (M.take i) / B64 ^ i) 0) (bo (val B64 (Lu.take i)) (g * val B64 (M.take i) % B64 ^ i)) : Int))) bu tu .u64
          (mid off (ch B64 (i + 1) (sb (B64 ^ (i + 1)) (val B64 (Lu.take (i + 1))) (g * val B64 (M.take (i + 1)) % B64 ^ (i + 1))) Lu) L) by
        have h1 := hblk.set_ (off + i) (E := _) (z := df1 (nth Lu i) (ad1 (ml1 g (nth M i)) (g * val B64 (M.take i) / B64 ^ i) 0) (bo (val B64 (Lu.take i)) (g * val B64 (M.take i) % B64 ^ i))) rfl
        rw [mid_set (by rw [hcl]; exact hfit) (by rw [hcl]; omega), ch_set (by rw [HLul.out]; omega) hsb (df1_lt _ _ _)] at h1
        rw [vt_succ' Lu, hP1, Nat.pow_succ, sb_step ha hb' hx (ad1_lt _ _ _)]
        exact h1)
      have Hon := hide hon
      have HC := hide (mul64_any g (nth M i) hg2 hy)
      have ek : IntKind.u64.wrap ((mh1 g (nth M i) : Int) + (cy1 (ml1 g (nth M i)) (g * val B64 (M.take i) / B64 ^ i) 0 : Int)) = (((g * val B64 (M.take i) / B64 ^ i + g * nth M i) / B64 : Nat) : Int) := by
        rw [← pd2, Int.natCast_add, ← Int.natCast_add, u64_small _ (by rw [pd2]; exact pd3)]
      have HK := hide pd3
      generalize (g * val B64 (M.take i) / B64 ^ i + g * nth M i) / B64 = kk at *
      clear hP1 hT pd1 pd2 pd3 hcl ha hb' hblk hon hrow2 hsb
      generalize bo (val B64 (Lu.take i)) (g * val B64 (M.take i) % B64 ^ i) = b0 at *
      generalize g * val B64 (M.take i) / B64 ^ i = k0 at *
      generalize nth Lu i = x at *
      generalize nth M i = y at *
      generalize hl : ml1 g y = ml at *
      generalize hh : mh1 g y = mh at *
      have hl := hide hl
      have hh := hide hh
      go_wp2_with fail
      refine (HC.out _).mono ?_
      rintro e w' ⟨rfl, rfl⟩
      go_wp2_with fail
      exact ⟨⟨i + 1, by omega, by simp, by rw [HN1.out], by rw [HN2.out], Hon.out.set_ _ _, HB.out⟩, by simp [intOf]; omega⟩
    · obtain rfl : i = n + 1 := by omega
      have hVt : val B64 (M.take (n + 1)) = V := by rw [vt_full M (by rw [HMl.out]; exact Nat.le_refl _), HVv.out]
      have hgV : g * V < B64 ^ (n + 1 + 1) := by
        rw [Nat.pow_succ, Nat.mul_comm]; exact Nat.mul_lt_mul'' hVB hg2
      have hx : nth Lu (n + 1) < B64 := Ok.getD B64_pos hokU _
      have hUt : U = val B64 (Lu.take (n + 1)) + B64 ^ (n + 1) * nth Lu (n + 1) := by rw [← vt_succ', vt_full Lu (by rw [HLul.out]; exact Nat.le_refl _), HUv.out]
      have hPt : g * V = g * V % B64 ^ (n + 1) + B64 ^ (n + 1) * (g * V / B64 ^ (n + 1)) := (Nat.mod_add_div _ _).symm
      rw [hVt] at hb' hbo hsb hcl hk hblk ⊢
      have hcell2 := hblk.cell (i := off + (n + 1)) (by rw [mid_length (by rw [hcl]; exact hfit)]; omega)
      rw [nth_mid (by rw [hcl]; exact hfit) (by rw [hcl]; omega), nth_ch (Nat.le_refl _)] at hcell2
      have hfr := hblk.frozen (off + (n + 1))
      have HN := hide (show bo1 (nth Lu (n + 1)) (g * V / B64 ^ (n + 1)) (bo (val B64 (Lu.take (n + 1))) (g * V % B64 ^ (n + 1))) = bo U (g * V) by
        conv => rhs; rw [hUt, hPt]
        rw [bo_step ha hb']; rfl)
      have HB := hide (show Blk (wr.setCell ⟨bu, off + (n + 1), none⟩ (.int .u64 (df1 (nth Lu (n + 1)) (g * V / B64 ^ (n + 1)) (bo (val B64 (Lu.take (n + 1))) (g * V % B64 ^ (n + 1))) : Int))) bu tu .u64
          (mid off (fix B64 (n + 2) (sb (B64 ^ (n + 2)) U (g * V))) L) by
        have h1 := hblk.set_ (off + (n + 1)) (E := _) (z := df1 (nth Lu (n + 1)) (g * V / B64 ^ (n + 1)) (bo (val B64 (Lu.take (n + 1))) (g * V % B64 ^ (n + 1)))) rfl
        rw [mid_set (by rw [hcl]; exact hfit) (by rw [hcl]; omega), ch_set (by rw [HLul.out]; omega) hsb (df1_lt _ _ _), ch_full' (by rw [HLul.out])] at h1
        have e : sb (B64 ^ (n + 2)) U (g * V) = sb (B64 ^ (n + 1)) (val B64 (Lu.take (n + 1))) (g * V % B64 ^ (n + 1)) + B64 ^ (n + 1) * df1 (nth Lu (n + 1)) (g * V / B64 ^ (n + 1)) (bo (val B64 (Lu.take (n + 1))) (g * V % B64 ^ (n + 1))) := by
          conv => lhs; rw [hUt, hPt, Nat.pow_succ]
          rw [sb_step ha hb' hx hk]; rfl
        rw [e]; exact h1)
      have Hon := hide ((HO1.out.trans hon).set_ (off + (n + 1)) (.int .u64 (df1 (nth Lu (n + 1)) (g * V / B64 ^ (n + 1)) (bo (val B64 (Lu.take (n + 1))) (g * V % B64 ^ (n + 1))) : Int)))
      have hrow3 := hide ((hon.set_ (off + (n + 1)) (.int .u64 (df1 (nth Lu (n + 1)) (g * V / B64 ^ (n + 1)) (bo (val B64 (Lu.take (n + 1))) (g * V % B64 ^ (n + 1))) : Int))).row HM1.out hne)
      clear hPt hUt hVt hcl ha hb' hblk hon hsb hPp
      generalize bo (val B64 (Lu.take (n + 1))) (g * V % B64 ^ (n + 1)) = b0 at *
      generalize g * V / B64 ^ (n + 1) = k0 at *
      generalize nth Lu (n + 1) = x at *
      go_wp2_with fail
      rw [HN.out]
      have HB := HB.out
      have HM2 := hrow3.out
      have HO2 := Hon.out
      generalize wr.setCell _ _ = w2 at *
      have HB := hide HB
      have HM2 := hide HM2
      have HO2 := hide HO2
      clear hcell2 hfr HN Hon hrow3 HL1 HM1 HO1
      have hUP : U < B64 ^ (n + 2) := by rw [← HUv.out, ← HLul.out]; exact val_lt hokU
      go_loopw [6, 7, 13, 14, 101] (fun s6 s7 _ _ _ wr => ∃ q : Nat, s6 = .int .u64 (q : Int) ∧ U / V ≤ q ∧ q < B64 ∧ s7 = .int .u64 (bo U (q * V) : Int) ∧ Only w wr bu ∧
        Hid (RowN wr .u64 bv ov M) ∧ Blk wr bu tu .u64 (mid off (fix B64 (n + 2) (sb (B64 ^ (n + 2)) U (q * V))) L)) (fun s6 _ _ _ _ _ => (intOf s6).toNat)
      case atStart => exact ⟨g, rfl, hg1, hg2, rfl, HO2.out, HM2, HB.out⟩
      case round =>
        obtain ⟨q, rfl, hq1, hq2, rfl, hon, hrowM, hblk⟩ := hrel
        clear HB HM2 HO2
        have Hon := hide hon
        have Hblk := hide hblk
        clear hon hblk
        by_cases hlt : U < q * V
        · have hq0 : 0 < q := by
            rcases Nat.eq_zero_or_pos q with h | h
            · rw [h, Nat.zero_mul] at hlt; omega
            · exact h
          obtain ⟨q1, rfl⟩ : ∃ k, q = k + 1 := ⟨q - 1, by omega⟩
          have hqP : (q1 + 1) * V ≤ B64 ^ (n + 2) := by
            rw [Nat.pow_succ, Nat.mul_comm]; exact Nat.mul_le_mul (by omega) (by omega)
          obtain ⟨ab1, ab2⟩ := add_back hlt hUP hqP hVp
          have hqU : U / V ≤ q1 := by
            have : U / V < q1 + 1 := by rw [Nat.div_lt_iff_lt_mul hVp]; exact hlt
            omega
          have hb1 : bo U ((q1 + 1) * V) = 1 := by unfold bo; rw [if_pos hlt]
          rw [hb1]
          have hsl : sb (B64 ^ (n + 2)) U ((q1 + 1) * V) < B64 ^ (n + 2) := by unfold sb bo; rw [if_pos hlt]; omega
          obtain ⟨S, hS⟩ : ∃ S, S = fix B64 (n + 2) (sb (B64 ^ (n + 2)) U ((q1 + 1) * V)) := ⟨_, rfl⟩
          have hSl : S.length = n + 2 := by rw [hS, fix_length]
          have hokS : Ok B64 S := by rw [hS]; exact fix_ok B64_pos _ _
          have hSv : val B64 S = sb (B64 ^ (n + 2)) U ((q1 + 1) * V) := by rw [hS, val_fix_of_lt hsl]
          rw [← hS] at Hblk
          rw [← hSv] at ab1 ab2
          have e1 : ((q1 + 1 : Nat) : Int) - 1 = (q1 : Int) := by omega
          have x1 := u64_small q1 (by omega)
          have HSl := hide hSl
          have HSv := hide hSv
          have Hab1 := hide ab1
          have Hab2 := hide ab2
          clear hS hSl hSv ab1 ab2 hb1 hsl
          have Hlt2 := hide hlt
          clear hlt
          obtain ⟨q2, hq2e⟩ : ∃ q2, q2 = q1 + 1 := ⟨_, rfl⟩
          rw [← hq2e] at e1 hq2 ⊢
          have Hq2e := hide hq2e
          clear hq2e
          go_wp2_with fail
          go_loopw [13, 14, 101] (fun cy _ k wx => ∃ i : Nat, i ≤ n + 1 ∧ k = .int .i64 i ∧ cy = .int .u64 (((val B64 (S.take i) + val B64 (M.take i)) / B64 ^ i : Nat) : Int) ∧ Only w wx bu ∧
            Hid (RowN wx .u64 bv ov M) ∧ Blk wx bu tu .u64 (mid off (ch B64 i ((val B64 (S.take i) + val B64 (M.take i)) % B64 ^ i) S) L)) (fun _ _ k _ => n + 1 - (intOf k).toNat)
          case atStart => exact ⟨0, Nat.zero_le _, rfl, by simp, Hon.out, hrowM, by rw [ch_zero]; exact Hblk.out⟩
          case round =>
            obtain ⟨i, hi, rfl, rfl, hon, hrow2, hblk⟩ := hrel
            have hT := carry_le (vt_lt hokS B64_pos i) (vt_lt hokM B64_pos i)
            have hTm : (val B64 (S.take i) + val B64 (M.take i)) % B64 ^ i < B64 ^ i := Nat.mod_lt _ (Nat.pow_pos B64_pos)
            have hcl : (ch B64 i ((val B64 (S.take i) + val B64 (M.take i)) % B64 ^ i) S).length = n + 2 := by rw [ch_length (by rw [HSl.out]; omega), HSl.out]
            by_cases hlt : i < n + 1
            · have hcell := hrow2.out i (by rw [HMl.out]; exact hlt)
              have hcell2 := hblk.cell (i := off + i) (by rw [mid_length (by rw [hcl]; exact hfit)]; omega)
              rw [nth_mid (by rw [hcl]; exact hfit) (by rw [hcl]; omega), nth_ch (Nat.le_refl _)] at hcell2
              have hfr := hblk.frozen (off + i)
              have hT' : val B64 (S.take (i + 1)) + val B64 (M.take (i + 1)) = val B64 (S.take i) + val B64 (M.take i) + B64 ^ i * (nth S i + nth M i) := by
                rw [vt_succ', vt_succ', Nat.mul_add]; omega
              have HN := hide (show cy1 (nth S i) (nth M i) ((val B64 (S.take i) + val B64 (M.take i)) / B64 ^ i) = (val B64 (S.take (i + 1)) + val B64 (M.take (i + 1))) / B64 ^ (i + 1) by
                unfold cy1; rw [hT', Nat.pow_succ, carry_div (Nat.pow_pos B64_pos), Nat.add_comm])
              have HB := hide (show Blk (wr.setCell ⟨bu, off + i, none⟩ (.int .u64 (ad1 (nth S i) (nth M i) ((val B64 (S.take i) + val B64 (M.take i)) / B64 ^ i) : Int))) bu tu .u64
                  (mid off (ch B64 (i + 1) ((val B64 (S.take (i + 1)) + val B64 (M.take (i + 1))) % B64 ^ (i + 1)) S) L) by
                have h1 := hblk.set_ (off + i) (E := _) (z := ad1 (nth S i) (nth M i) ((val B64 (S.take i) + val B64 (M.take i)) / B64 ^ i)) rfl
                rw [mid_set (by rw [hcl]; exact hfit) (by rw [hcl]; omega), ch_set (by rw [HSl.out]; omega) hTm (ad1_lt _ _ _)] at h1
                unfold ad1 at h1 ⊢
                rw [hT', Nat.pow_succ, carry_mod, Nat.add_comm ((val B64 (S.take i) + val B64 (M.take i)) / B64 ^ i)]
                exact h1)
              have Hon2 := hide hon
              have hrow4 : Hid (RowN (wr.setCell ⟨bu, off + i, none⟩ (.int .u64 (ad1 (nth S i) (nth M i) ((val B64 (S.take i) + val B64 (M.take i)) / B64 ^ i) : Int))) .u64 bv ov M) :=
                ((Only.refl wr bu).set_ (off + i) _).row hrow2.out hne
              clear hblk hon hT' hcl hrow2
              generalize (val B64 (S.take i) + val B64 (M.take i)) / B64 ^ i = k1 at *
              generalize nth S i = sx at *
              generalize nth M i = y at *
              go_wp2_with fail
              go_region
              go_wp2_with fail
              exact ⟨⟨i + 1, by omega, by simp, by rw [HN.out], (Hon2.out.set_ _ _).drew, hrow4.out, HB.out.drew⟩, by simp [intOf]; omega⟩
            · obtain rfl : i = n + 1 := by omega
              rw [vt_full M (by rw [HMl.out]; exact Nat.le_refl _), HVv.out] at hT hTm hcl hblk ⊢
              have hTS : val B64 S + V = val B64 (S.take (n + 1)) + V + B64 ^ (n + 1) * nth S (n + 1) := by
                have : val B64 S = val B64 (S.take (n + 1)) + B64 ^ (n + 1) * nth S (n + 1) := by rw [← vt_succ', vt_full S (by rw [HSl.out]; exact Nat.le_refl _)]
                omega
              have hcell2 := hblk.cell (i := off + (n + 1)) (by rw [mid_length (by rw [hcl]; exact hfit)]; omega)
              rw [nth_mid (by rw [hcl]; exact hfit) (by rw [hcl]; omega), nth_ch (Nat.le_refl _)] at hcell2
              have hfr := hblk.frozen (off + (n + 1))
              have HN := hide (show cy1 (nth S (n + 1)) 0 ((val B64 (S.take (n + 1)) + V) / B64 ^ (n + 1)) = 1 - bo U (q1 * V) by
                rw [← Hab2.out, hTS, Nat.pow_succ B64 (n + 1), carry_div (Nat.pow_pos B64_pos)]; unfold cy1; rw [Nat.add_zero, Nat.add_comm])
              have HB := hide (show Blk (wr.setCell ⟨bu, off + (n + 1), none⟩ (.int .u64 (ad1 (nth S (n + 1)) 0 ((val B64 (S.take (n + 1)) + V) / B64 ^ (n + 1)) : Int))) bu tu .u64
                  (mid off (fix B64 (n + 2) (sb (B64 ^ (n + 2)) U (q1 * V))) L) by
                have h1 := hblk.set_ (off + (n + 1)) (E := _) (z := ad1 (nth S (n + 1)) 0 ((val B64 (S.take (n + 1)) + V) / B64 ^ (n + 1))) rfl
                rw [mid_set (by rw [hcl]; exact hfit) (by rw [hcl]; omega), ch_set (by rw [HSl.out]; omega) hTm (ad1_lt _ _ _), ch_full' (by rw [HSl.out])] at h1
                rw [← Hab1.out, hTS, Nat.pow_succ B64 (n + 1), carry_mod]
                have e0 : ∀ a b, ad1 a 0 b = (b + a) % B64 := fun a b => by unfold ad1; rw [Nat.add_zero, Nat.add_comm]
                rw [e0] at h1
                rw [e0]
                exact h1)
              have hrow4 : Hid (RowN (wr.setCell ⟨bu, off + (n + 1), none⟩ (.int .u64 (ad1 (nth S (n + 1)) 0 ((val B64 (S.take (n + 1)) + V) / B64 ^ (n + 1)) : Int))) .u64 bv ov M) :=
                ((Only.refl wr bu).set_ (off + (n + 1)) _).row hrow2.out hne
              have Hon2 := hide hon
              have hbo := bo_le U (q1 * V)
              have ew : IntKind.u64.wrap (((1 : Nat) : Int) - ((1 - bo U (q1 * V) : Nat) : Int)) = (bo U (q1 * V) : Int) := by
                rw [wrap_u] <;> omega
              rw [← HN.out] at ew
              simp only [Int.natCast_one] at ew
              clear hblk hon hTS hcl hrow2
              generalize (val B64 (S.take (n + 1)) + V) / B64 ^ (n + 1) = k1 at *
              generalize nth S (n + 1) = sx at *
              go_wp2_with fail
              exact ⟨⟨q1, rfl, hqU, by have := Hq2e.out; omega, rfl, Hon2.out.set_ _ _, hrow4, HB.out⟩, by have := Hq2e.out; simp [intOf]; omega⟩
        · have hb0 : bo U (q * V) = 0 := by unfold bo; rw [if_neg hlt]
          have hqe : q = U / V := by
            refine Nat.le_antisymm ?_ hq1
            rw [Nat.le_div_iff_mul_le hVp]; omega
          have hse : sb (B64 ^ (n + 2)) U (q * V) = U % V := by
            unfold sb; rw [hb0, hqe, Nat.zero_mul, Nat.add_zero]
            have := Nat.div_add_mod U V
            rw [Nat.mul_comm] at this
            omega
          rw [hse] at Hblk
          rw [hb0]
          have Hqe := hide hqe
          clear hqe hse hb0 hlt
          go_wp2_with fail
          go_ret
          exact ⟨ret_int (by rw [Hqe.out]), Hblk.out, Hon.out⟩
end Go.Proofs.Ytincemkjdgbnnaa
