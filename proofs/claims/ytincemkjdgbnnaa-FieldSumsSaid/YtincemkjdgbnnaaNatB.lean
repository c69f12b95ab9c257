/- Walks: the reference's numbers (nat): Add. -/
import Derived.Test.YtincemkjdgbnnaaNatA
set_option linter.unusedVariables false
set_option linter.unusedSimpArgs false
namespace Go.Proofs.Ytincemkjdgbnnaa
open Go.RowKit Lm

theorem u64_nat (n : Nat) (h : n < B64) : IntKind.u64.wrap (n : Int) = (n : Int) := u64_small n h
theorem p32_pos (i : Nat) : 0 < B32 ^ i := Nat.pow_pos B32_pos
theorem carry32_le {a b i : Nat} (ha : a < B32 ^ i) (hb : b < B32 ^ i) : (a + b) / B32 ^ i ≤ 1 := by
  have : (a + b) / B32 ^ i < 2 := (Nat.div_lt_iff_lt_mul (p32_pos i)).2 (by omega)
  omega

set_option maxRecDepth 100000 in
set_option maxHeartbeats 1600000 in
theorem nadd_any (A A' : Option Addr) (c c' a b : Nat) (w : World) (hr : Rd w .u32 A (digs B32 a)) (hc : (digs B32 a).length ≤ c) (hlim : (digs B32 a).length < lim)
    (hr' : Rd w .u32 A' (digs B32 b)) (hc' : (digs B32 b).length ≤ c') (hlim' : (digs B32 b).length < lim) :
    Calls Try.prog 15 #[.slice A (digs B32 a).length c, .slice A' (digs B32 b).length c'] w (RetSl w .u32 (digs B32 (a + b))) := by
  have HA := hide (val_digs B32_ge a)
  have HB := hide (val_digs B32_ge b)
  have okL := hide (digs_ok B32_ge a)
  have okM := hide (digs_ok B32_ge b)
  unfold lim at hlim hlim'
  generalize digs B32 a = L at *
  generalize digs B32 b = M at *
  generalize hp : L.length = p at *
  generalize hq : M.length = q at *
  have HP := hide hp; clear hp
  have HQ := hide hq; clear hq
  obtain ⟨N, hN⟩ : ∃ N, N = max p q := ⟨_, rfl⟩
  have HN := hide hN
  have hpN : p ≤ N := by omega
  have hqN : q ≤ N := by omega
  have hNl : N < 1099511627776 := by omega
  go_enter Try.func15, Try.ntmps15
  go_upto_if 15 with fail
  go_cut [5] (fun s wx => s = .int .i64 (N : Int) ∧ wx = w)
  case first =>
    by_cases hpq : p < q
    · have hd : decide (p < q) = true := by simp [hpq]
      have e : N = q := by omega
      have e := hide e
      clear hN
      go_wp2_with fail
      go_meet
      exact ⟨by rw [e.out], rfl⟩
    · have hd : decide (p < q) = false := by simp [hpq]
      have e : N = p := by omega
      have e := hide e
      clear hN
      go_wp2_with fail
      go_meet
      exact ⟨by rw [e.out], rfl⟩
  obtain ⟨rfl, hw⟩ := hcut
  subst hw
  clear hN
  have hmk := mk_u32 ((N : Int) + 1) (N + 1) (by omega) (by unfold lim; omega)
  have iw := wrap_in ((N : Int) + 1) (by omega) (by omega)
  go_wp2_with fail
  clear hmk iw
  have HL := hide (show L.length = p from HP.out)
  go_loopw [7, 8, 9] (fun cy k _ wr => ∃ i : Nat, i ≤ N + 1 ∧ k = .int .i64 i ∧ cy = .int .u64 (((val B32 (L.take i) + val B32 (M.take i)) / B32 ^ i : Nat) : Int) ∧
    Only (wc.alloc (nblk .u32 95 (List.replicate (N + 1) 0))) wr wc.heap.size ∧
    Blk wr wc.heap.size 95 .u32 (ch B32 i ((val B32 (L.take i) + val B32 (M.take i)) % B32 ^ i) (List.replicate (N + 1) 0))) (fun _ k _ _ => N + 1 - (intOf k).toNat)
  case atStart =>
    exact ⟨0, Nat.zero_le _, rfl, by simp, Only.refl _ _, by rw [ch_zero]; exact Blk.new _ _ _ _⟩
  case round =>
    obtain ⟨i, hi, rfl, rfl, hon, hblk⟩ := hrel
    have hT := carry32_le (vt_lt okL.out B32_pos i) (vt_lt okM.out B32_pos i)
    have hTm : (val B32 (L.take i) + val B32 (M.take i)) % B32 ^ i < B32 ^ i := Nat.mod_lt _ (p32_pos i)
    have hcl : (ch B32 i ((val B32 (L.take i) + val B32 (M.take i)) % B32 ^ i) (List.replicate (N + 1) 0)).length = N + 1 := by rw [ch_length (by simp; omega)]; simp
    by_cases hlt : i < N + 1
    · have hx : nth L i < B32 := Ok.getD B32_pos okL.out _
      have hy : nth M i < B32 := Ok.getD B32_pos okM.out _
      have hcell2 := hblk.cell (i := i) (by rw [hcl]; exact hlt)
      have hfr := hblk.frozen i
      have hT' : val B32 (L.take (i + 1)) + val B32 (M.take (i + 1)) = val B32 (L.take i) + val B32 (M.take i) + B32 ^ i * (nth L i + nth M i) := by
        rw [vt_succ', vt_succ', Nat.mul_add]; omega
      have HNx := hide (show ((val B32 (L.take i) + val B32 (M.take i)) / B32 ^ i + (nth L i + nth M i)) / B32 = (val B32 (L.take (i + 1)) + val B32 (M.take (i + 1))) / B32 ^ (i + 1) by
        rw [hT', Nat.pow_succ, carry_div (p32_pos i)])
      have HBx := hide (show Blk (wr.setCell ⟨wc.heap.size, i, none⟩ (.int .u32 ((((val B32 (L.take i) + val B32 (M.take i)) / B32 ^ i + (nth L i + nth M i)) % B32 : Nat) : Int))) wc.heap.size 95 .u32
          (ch B32 (i + 1) ((val B32 (L.take (i + 1)) + val B32 (M.take (i + 1))) % B32 ^ (i + 1)) (List.replicate (N + 1) 0)) by
        have h1 := hblk.set_ i (E := _) (z := ((val B32 (L.take i) + val B32 (M.take i)) / B32 ^ i + (nth L i + nth M i)) % B32) rfl
        rw [ch_set (by simp; omega) hTm (Nat.mod_lt _ B32_pos)] at h1
        rw [hT', Nat.pow_succ, carry_mod]
        exact h1)
      have hrL : i < p → wr.cell? ⟨(A.getD ⟨0, 0, none⟩).block, (A.getD ⟨0, 0, none⟩).off + i, none⟩ = some (.int .u32 (nth L i : Int)) ∧ A = some ⟨(A.getD ⟨0, 0, none⟩).block, (A.getD ⟨0, 0, none⟩).off, none⟩ := fun h => by
        obtain ⟨b0, off, rfl, hrow⟩ := hr (by rw [HP.out]; omega)
        have hbw := hrow.lt (by rw [HP.out]; omega)
        exact ⟨hon.row (hrow.below ((Below.refl _ _).alloc (Nat.le_refl _) _)) (by omega) i (by rw [HP.out]; exact h), rfl⟩
      have hrM : i < q → wr.cell? ⟨(A'.getD ⟨0, 0, none⟩).block, (A'.getD ⟨0, 0, none⟩).off + i, none⟩ = some (.int .u32 (nth M i : Int)) ∧ A' = some ⟨(A'.getD ⟨0, 0, none⟩).block, (A'.getD ⟨0, 0, none⟩).off, none⟩ := fun h => by
        obtain ⟨b0, off, rfl, hrow⟩ := hr' (by rw [HQ.out]; omega)
        have hbw := hrow.lt (by rw [HQ.out]; omega)
        exact ⟨hon.row (hrow.below ((Below.refl _ _).alloc (Nat.le_refl _) _)) (by omega) i (by rw [HQ.out]; exact h), rfl⟩
      have hzL : p ≤ i → nth L i = 0 := fun h => nth_of_ge (by rw [HP.out]; exact h)
      have hzM : q ≤ i → nth M i = 0 := fun h => nth_of_ge (by rw [HQ.out]; exact h)
      have Hon := hide hon
      have hrL := hide hrL
      have hrM := hide hrM
      have hzL := hide hzL
      have hzM := hide hzM
      clear hT' hTm hcl hblk hon
      generalize (val B32 (L.take i) + val B32 (M.take i)) / B32 ^ i = k0 at *
      generalize nth L i = x at *
      generalize nth M i = y at *
      obtain ⟨S, hS⟩ : ∃ S, S = k0 + (x + y) := ⟨_, rfl⟩
      obtain ⟨d, hd⟩ : ∃ d, d = S % B32 := ⟨_, rfl⟩
      obtain ⟨k1, hk1⟩ : ∃ k, k = S / B32 := ⟨_, rfl⟩
      rw [← hS] at HNx HBx
      rw [← hk1] at HNx
      rw [← hd] at HBx
      have ex : IntKind.u64.wrap (x : Int) = (x : Int) := wrap_u _ (by omega) (by rw [B32_eq] at hx; omega)
      have ey : IntKind.u64.wrap (y : Int) = (y : Int) := wrap_u _ (by omega) (by rw [B32_eq] at hy; omega)
      rw [B32_eq] at hx hy
      by_cases hip : i < p
      · obtain ⟨hcL, hA⟩ := hrL.out hip
        clear hrL hzL
        generalize (A.getD ⟨0, 0, none⟩).block = b0 at *
        generalize (A.getD ⟨0, 0, none⟩).off = o0 at *
        subst hA
        by_cases hiq : i < q
        · obtain ⟨hcM, hA'⟩ := hrM.out hiq
          clear hrM hzM
          generalize (A'.getD ⟨0, 0, none⟩).block = b0' at *
          generalize (A'.getD ⟨0, 0, none⟩).off = o0' at *
          subst hA'
          obtain ⟨s1, hs1⟩ : ∃ s, s = k0 + x := ⟨_, rfl⟩
          have e1 : IntKind.u64.wrap ((k0 : Int) + (x : Int)) = (s1 : Int) := by rw [wrap_u] <;> omega
          have e2 : IntKind.u64.wrap ((s1 : Int) + (y : Int)) = (S : Int) := by rw [wrap_u] <;> omega
          replace hs1 := hide hs1
          have ed : (S : Int) % 4294967296 = (d : Int) := by rw [hd, B32_eq]; omega
          have ek : (S : Int) / 4294967296 = (k1 : Int) := by rw [hk1, B32_eq]; omega
          replace hd := hide hd
          replace hk1 := hide hk1
          replace hS := hide hS
          clear hx hy hT
          go_wp2_with fail
          exact ⟨⟨i + 1, by omega, by simp, by rw [HNx.out], Hon.out.set_ _ _, HBx.out⟩, by simp [intOf]; omega⟩
        · obtain rfl : y = 0 := hzM.out (by omega)
          clear hrM hzM
          have e1 : IntKind.u64.wrap ((k0 : Int) + (x : Int)) = (S : Int) := by rw [wrap_u] <;> omega
          have ed : (S : Int) % 4294967296 = (d : Int) := by rw [hd, B32_eq]; omega
          have ek : (S : Int) / 4294967296 = (k1 : Int) := by rw [hk1, B32_eq]; omega
          replace hd := hide hd
          replace hk1 := hide hk1
          replace hS := hide hS
          clear hx hy hT
          go_wp2_with fail
          exact ⟨⟨i + 1, by omega, by simp, by rw [HNx.out], Hon.out.set_ _ _, HBx.out⟩, by simp [intOf]; omega⟩
      · obtain rfl : x = 0 := hzL.out (by omega)
        clear hrL hzL
        by_cases hiq : i < q
        · obtain ⟨hcM, hA'⟩ := hrM.out hiq
          clear hrM hzM
          generalize (A'.getD ⟨0, 0, none⟩).block = b0' at *
          generalize (A'.getD ⟨0, 0, none⟩).off = o0' at *
          subst hA'
          have e1 : IntKind.u64.wrap ((k0 : Int) + (y : Int)) = (S : Int) := by rw [wrap_u] <;> omega
          have ed : (S : Int) % 4294967296 = (d : Int) := by rw [hd, B32_eq]; omega
          have ek : (S : Int) / 4294967296 = (k1 : Int) := by rw [hk1, B32_eq]; omega
          replace hd := hide hd
          replace hk1 := hide hk1
          replace hS := hide hS
          clear hx hy hT
          go_wp2_with fail
          exact ⟨⟨i + 1, by omega, by simp, by rw [HNx.out], Hon.out.set_ _ _, HBx.out⟩, by simp [intOf]; omega⟩
        · obtain rfl : y = 0 := hzM.out (by omega)
          clear hrM hzM
          obtain rfl : S = k0 := by omega
          clear hS
          have ed : (S : Int) % 4294967296 = (d : Int) := by rw [hd, B32_eq]; omega
          have ek : (S : Int) / 4294967296 = (k1 : Int) := by rw [hk1, B32_eq]; omega
          replace hd := hide hd
          replace hk1 := hide hk1
          clear hx hy hT
          go_wp2_with fail
          exact ⟨⟨i + 1, by omega, by simp, by rw [HNx.out], Hon.out.set_ _ _, HBx.out⟩, by simp [intOf]; omega⟩
    · obtain rfl : i = N + 1 := by omega
      have hbw : Below wc.heap.size wc wr := Only.below ((Below.refl _ _).alloc (Nat.le_refl _) _) hon (Nat.le_refl _)
      have hlt : a + b < B32 ^ (N + 1) := by
        have h1 := val_lt okL.out
        have h2 := val_lt okM.out
        rw [HP.out, HA.out] at h1
        rw [HQ.out, HB.out] at h2
        have h3 := Nat.pow_le_pow_right (n := B32) B32_pos hpN
        have h4 := Nat.pow_le_pow_right (n := B32) B32_pos hqN
        have h5 : 2 * B32 ^ N ≤ B32 ^ (N + 1) := by rw [Nat.pow_succ, Nat.mul_comm]; exact Nat.mul_le_mul_left _ (by decide)
        omega
      rw [ch_full' (by simp), vt_full L (by rw [HP.out]; omega), vt_full M (by rw [HQ.out]; omega), HA.out, HB.out, Nat.mod_eq_of_lt hlt] at hblk
      have htr := ntrim_any (some ⟨wc.heap.size, 0, none⟩) (N + 1) (fix B32 (N + 1) (a + b)) wr (fun _ => ⟨_, _, rfl, hblk.row0⟩) (by rw [fix_length]; exact Nat.le_refl _) (by rw [fix_length]; unfold lim; omega) (fix_ok B32_pos _ _)
      rw [fix_length, val_fix_of_lt hlt] at htr
      have Htr := hide htr
      have hbw := hide hbw
      clear htr hblk hon hTm hT hcl hlt
      go_wp2_with fail
      refine Htr.out.mono ?_
      rintro e w2 ⟨A2, c2, rfl, hc2, hr2, hb2⟩
      have hb2 := hide hb2
      go_wp2_with fail
      go_ret
      exact retsl_mk (below_next hbw.out hb2.out) rfl hc2 hr2
end Go.Proofs.Ytincemkjdgbnnaa
