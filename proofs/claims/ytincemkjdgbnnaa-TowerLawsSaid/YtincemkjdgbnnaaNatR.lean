/- Walks: the reference's numbers (nat): trim, Of. Walks: the reference's numbers (nat): Add. Walks: the reference's numbers (nat): Shl by less than a digit. Walks: the reference's field (ref06): Hex. Walks: the reference's field (ref06): Of. Walks: the statements' helps (law06): wakes. -/
import Derived.Test.YtincemkjdgbnnaaFieP
set_option linter.unusedVariables false
set_option linter.unusedSimpArgs false
namespace Go.Proofs.Ytincemkjdgbnnaa
open Go.RowKit Lm

theorem B32_pos : 0 < B32 := by decide
theorem mk_u32 (x : Int) (n : Nat) (hx : x = (n : Int)) (hn : n ≤ lim) (W : World) :
    (Instr.makeSlice 30 (.int .i64 x) (.int .i64 x)).run Try.prog W = .ok (.slice (some ⟨W.heap.size, 0, none⟩) n n) (W.alloc (nblk .u32 95 (List.replicate n 0))) :=
  mk_row Try.underlying30 Try.info_u32 (by omega) x n hx hn W

theorem ntake_trim {l : List Nat} (hok : Lm.Ok B32 l) {n : Nat} (hn : n ≤ l.length) (hz : ∀ i, n ≤ i → i < l.length → nth l i = 0)
    (hl : 0 < n → nth l (n - 1) ≠ 0) : l.take n = Lm.digs B32 (Lm.val B32 l) :=
  Lm.take_eq_digs B32_ge hok hn (fun i hi h => by rw [← nth_of_lt hi]; exact hz i h hi) (fun h0 => by rw [← nth_of_lt]; exact hl h0)

set_option maxHeartbeats 400000 in
theorem ntrim_any (A : Option Addr) (c : Nat) (l : List Nat) (w : World) (hr : Rd w .u32 A l) (hc : l.length ≤ c) (hlim : l.length ≤ lim) (hok : Lm.Ok B32 l) :
    Calls Try.prog 62 #[.slice A l.length c] w (RetSl w .u32 (Lm.digs B32 (Lm.val B32 l))) := by
  unfold lim at hlim
  generalize hlen : l.length = len at *
  have hlen := hide hlen
  go_enter Try.func62, Try.ntmps62
  go_wp2
  go_loop [3] (fun s => ∃ n : Nat, n ≤ len ∧ s = .int .i64 n ∧ Hid (∀ i, n ≤ i → i < len → nth l i = 0)) (fun s => (intOf s).toNat)
  case atStart => exact ⟨len, Nat.le_refl _, rfl, fun i h1 h2 => by omega⟩
  case round =>
    obtain ⟨n, hn, rfl, hz⟩ := hrel
    by_cases h0 : 0 < n
    · obtain ⟨b, off, rfl, hrow⟩ := hr (by rw [hlen.out]; omega)
      have hcell := hrow (n - 1) (by rw [hlen.out]; omega)
      clear hrow
      by_cases hz0 : nth l (n - 1) = 0
      · have hd : ((nth l (n - 1) : Int) == 0) = true := by simp [hz0]
        go_wp2_with fail
        exact ⟨⟨n - 1, by omega, by rw [show ((n - 1 : Nat) : Int) = (n : Int) - 1 from by omega], fun i h1 h2 => by
          rcases Nat.lt_or_ge i n with h3 | h3
          · rw [show i = n - 1 from by omega]; exact hz0
          · exact hz.out i h3 h2⟩, by simp [intOf]; omega⟩
      · have hd : ((nth l (n - 1) : Int) == 0) = false := by rw [beq_eq_false_iff_ne]; omega
        have hfin := hide (ntake_trim hok (n := n) (by rw [hlen.out]; omega) (fun i h1 h2 => hz.out i h1 (by rw [← hlen.out]; exact h2)) (fun _ => hz0))
        go_wp2_with fail
        go_ret
        exact retsl_mk (Below.refl _ _) (by rw [← hfin.out, List.length_take, hlen.out]; omega) (by omega) (by rw [← hfin.out]; exact hr.take n)
    · obtain rfl : n = 0 := by omega
      have hfin := hide (ntake_trim hok (n := 0) (by omega) (fun i h1 h2 => hz.out i h1 (by rw [← hlen.out]; exact h2)) (fun h => absurd h h0))
      go_wp2_with fail
      go_ret
      exact retsl_mk (Below.refl _ _) (by rw [← hfin.out]; simp) (by omega) (by rw [← hfin.out]; exact Rd.nil _ _ _)


theorem of_digits {n : Nat} (h : n < B64) : val B32 [n % B32, n / B32 % B32] = n := by
  simp only [val, B32_eq]; rw [B64_eq] at h; omega

theorem nof_any (n : Nat) (w : World) (h : n < B64) : Calls Try.prog 29 #[.int .u64 (n : Int)] w (RetSl w .u32 (digs B32 n)) := by
  have hv := hide (of_digits h)
  obtain ⟨d0, hd0⟩ : ∃ d, d = n % B32 := ⟨_, rfl⟩
  obtain ⟨d1, hd1⟩ : ∃ d, d = n / B32 % B32 := ⟨_, rfl⟩
  have h1 : IntKind.u32.wrap (n : Int) = (d0 : Int) := by rw [hd0, IntKind.wrap_u32, B32_eq]; omega
  have h2 : IntKind.u32.wrap ((n : Int) / 4294967296) = (d1 : Int) := by rw [hd1, IntKind.wrap_u32, B32_eq]; omega
  have hok : Ok B32 [d0, d1] := Ok.cons (by rw [hd0]; exact Nat.mod_lt _ B32_pos) (Ok.cons (by rw [hd1]; exact Nat.mod_lt _ B32_pos) Ok.nil)
  rw [← hd0, ← hd1] at hv
  have hok := hide hok
  clear hd0 hd1
  go_enter Try.func29, Try.ntmps29
  go_wp2_with fail
  have hblk : Blk (w.alloc (.cells #[.int .u32 (d0 : Int), .int .u32 (d1 : Int)] 95)) w.heap.size 95 .u32 [d0, d1] := Blk.new w .u32 95 [d0, d1]
  have ht := ntrim_any (some ⟨w.heap.size, 0, none⟩) 2 [d0, d1] _ (fun _ => ⟨_, _, rfl, hblk.row0⟩) (Nat.le_refl _) (by simp [lim]) hok.out
  rw [hv.out] at ht
  have ht := hide ht
  clear hblk
  refine ht.out.mono ?_
  rintro e w1 ⟨A1, c1, rfl, hc1, hr1, hb1⟩
  have hb := hide (below_then (below_alloc (Below.refl _ _) _) (by simp) hb1)
  clear hb1 ht
  go_wp2_with fail
  go_ret
  exact retsl_mk hb.out rfl hc1 hr1
end Go.Proofs.Ytincemkjdgbnnaa

set_option linter.unusedVariables false
set_option linter.unusedSimpArgs false
namespace Go.Proofs.Ytincemkjdgbnnaa
open Go.RowKit Lm

theorem u64_nat (n : Nat) (h : n < B64) : IntKind.u64.wrap (n : Int) = (n : Int) := u64_small n h
theorem p32_pos (i : Nat) : 0 < B32 ^ i := Nat.pow_pos B32_pos
theorem carry32_le {a b i : Nat} (ha : a < B32 ^ i) (hb : b < B32 ^ i) : (a + b) / B32 ^ i ≤ 1 := by
  have : (a + b) / B32 ^ i < 2 := (Nat.div_lt_iff_lt_mul (p32_pos i)).2 (by omega)
  omega

set_option maxRecDepth 100000 in
set_option maxHeartbeats 1600000 in
theorem nadd_any (A A' : Option Addr) (c c' a b : Nat) (w : World) (hr : Rd w .u32 A (digs B32 a)) (hc : (digs B32 a).length ≤ c) (hlim : (digs B32 a).length < lim)
    (hr' : Rd w .u32 A' (digs B32 b)) (hc' : (digs B32 b).length ≤ c') (hlim' : (digs B32 b).length < lim) :
    Calls Try.prog 15 #[.slice A (digs B32 a).length c, .slice A' (digs B32 b).length c'] w (RetSl w .u32 (digs B32 (a + b))) := by
  have HA := hide (val_digs B32_ge a)
  have HB := hide (val_digs B32_ge b)
  have okL := hide (digs_ok B32_ge a)
  have okM := hide (digs_ok B32_ge b)
  unfold lim at hlim hlim'
  generalize digs B32 a = L at *
  generalize digs B32 b = M at *
  generalize hp : L.length = p at *
  generalize hq : M.length = q at *
  have HP := hide hp; clear hp
  have HQ := hide hq; clear hq
  obtain ⟨N, hN⟩ : ∃ N, N = max p q := ⟨_, rfl⟩
  have HN := hide hN
  have hpN : p ≤ N := by omega
  have hqN : q ≤ N := by omega
  have hNl : N < 1099511627776 := by omega
  go_enter Try.func15, Try.ntmps15
  go_upto_if 15 with fail
  go_cut [5] (fun s wx => s = .int .i64 (N : Int) ∧ wx = w)
  case first =>
    by_cases hpq : p < q
    · have hd : decide (p < q) = true := by simp [hpq]
      have e : N = q := by omega
      have e := hide e
      clear hN
      go_wp2_with fail
      go_meet
      exact ⟨by rw [e.out], rfl⟩
    · have hd : decide (p < q) = false := by simp [hpq]
      have e : N = p := by omega
      have e := hide e
      clear hN
      go_wp2_with fail
      go_meet
      exact ⟨by rw [e.out], rfl⟩
  obtain ⟨rfl, hw⟩ := hcut
  subst hw
  clear hN
  have hmk := mk_u32 ((N : Int) + 1) (N + 1) (by omega) (by unfold lim; omega)
  have iw := wrap_in ((N : Int) + 1) (by omega) (by omega)
  go_wp2_with fail
  clear hmk iw
  have HL := hide (show L.length = p from HP.out)
  go_loopw [7, 8, 9] (fun cy k _ wr => ∃ i : Nat, i ≤ N + 1 ∧ k = .int .i64 i ∧ cy = .int .u64 (((val B32 (L.take i) + val B32 (M.take i)) / B32 ^ i : Nat) : Int) ∧
    Only (wc.alloc (nblk .u32 95 (List.replicate (N + 1) 0))) wr wc.heap.size ∧
    Blk wr wc.heap.size 95 .u32 (ch B32 i ((val B32 (L.take i) + val B32 (M.take i)) % B32 ^ i) (List.replicate (N + 1) 0))) (fun _ k _ _ => N + 1 - (intOf k).toNat)
  case atStart =>
    exact ⟨0, Nat.zero_le _, rfl, by simp, Only.refl _ _, by rw [ch_zero]; exact Blk.new _ _ _ _⟩
  case round =>
    obtain ⟨i, hi, rfl, rfl, hon, hblk⟩ := hrel
    have hT := carry32_le (vt_lt okL.out B32_pos i) (vt_lt okM.out B32_pos i)
    have hTm : (val B32 (L.take i) + val B32 (M.take i)) % B32 ^ i < B32 ^ i := Nat.mod_lt _ (p32_pos i)
    have hcl : (ch B32 i ((val B32 (L.take i) + val B32 (M.take i)) % B32 ^ i) (List.replicate (N + 1) 0)).length = N + 1 := by rw [ch_length (by simp; omega)]; simp
    by_cases hlt : i < N + 1
    · have hx : nth L i < B32 := Ok.getD B32_pos okL.out _
      have hy : nth M i < B32 := Ok.getD B32_pos okM.out _
      have hcell2 := hblk.cell (i := i) (by rw [hcl]; exact hlt)
      have hfr := hblk.frozen i
      have hT' : val B32 (L.take (i + 1)) + val B32 (M.take (i + 1)) = val B32 (L.take i) + val B32 (M.take i) + B32 ^ i * (nth L i + nth M i) := by
        rw [vt_succ', vt_succ', Nat.mul_add]; omega
      have HNx := hide (show ((val B32 (L.take i) + val B32 (M.take i)) / B32 ^ i + (nth L i + nth M i)) / B32 = (val B32 (L.take (i + 1)) + val B32 (M.take (i + 1))) / B32 ^ (i + 1) by
        rw [hT', Nat.pow_succ, carry_div (p32_pos i)])
      have HBx := hide (show Blk (wr.setCell ⟨wc.heap.size, i, none⟩ (.int .u32 ((((val B32 (L.take i) + val B32 (M.take i)) / B32 ^ i + (nth L i + nth M i)) % B32 : Nat) : Int))) wc.heap.size 95 .u32
          (ch B32 (i + 1) ((val B32 (L.take (i + 1)) + val B32 (M.take (i + 1))) % B32 ^ (i + 1)) (List.replicate (N + 1) 0)) by
        have h1 := hblk.set_ i (E := _) (z := ((val B32 (L.take i) + val B32 (M.take i)) / B32 ^ i + (nth L i + nth M i)) % B32) rfl
        rw [ch_set (by simp; omega) hTm (Nat.mod_lt _ B32_pos)] at h1
        rw [hT', Nat.pow_succ, carry_mod]
        exact h1)
      have hrL : i < p → wr.cell? ⟨(A.getD ⟨0, 0, none⟩).block, (A.getD ⟨0, 0, none⟩).off + i, none⟩ = some (.int .u32 (nth L i : Int)) ∧ A = some ⟨(A.getD ⟨0, 0, none⟩).block, (A.getD ⟨0, 0, none⟩).off, none⟩ := fun h => by
        obtain ⟨b0, off, rfl, hrow⟩ := hr (by rw [HP.out]; omega)
        have hbw := hrow.lt (by rw [HP.out]; omega)
        exact ⟨hon.row (hrow.below ((Below.refl _ _).alloc (Nat.le_refl _) _)) (by omega) i (by rw [HP.out]; exact h), rfl⟩
      have hrM : i < q → wr.cell? ⟨(A'.getD ⟨0, 0, none⟩).block, (A'.getD ⟨0, 0, none⟩).off + i, none⟩ = some (.int .u32 (nth M i : Int)) ∧ A' = some ⟨(A'.getD ⟨0, 0, none⟩).block, (A'.getD ⟨0, 0, none⟩).off, none⟩ := fun h => by
        obtain ⟨b0, off, rfl, hrow⟩ := hr' (by rw [HQ.out]; omega)
        have hbw := hrow.lt (by rw [HQ.out]; omega)
        exact ⟨hon.row (hrow.below ((Below.refl _ _).alloc (Nat.le_refl _) _)) (by omega) i (by rw [HQ.out]; exact h), rfl⟩
      have hzL : p ≤ i → nth L i = 0 := fun h => nth_of_ge (by rw [HP.out]; exact h)
      have hzM : q ≤ i → nth M i = 0 := fun h => nth_of_ge (by rw [HQ.out]; exact h)
      have Hon := hide hon
      have hrL := hide hrL
      have hrM := hide hrM
      have hzL := hide hzL
      have hzM := hide hzM
      clear hT' hTm hcl hblk hon
      generalize (val B32 (L.take i) + val B32 (M.take i)) / B32 ^ i = k0 at *
      generalize nth L i = x at *
      generalize nth M i = y at *
      obtain ⟨S, hS⟩ : ∃ S, S = k0 + (x + y) := ⟨_, rfl⟩
      obtain ⟨d, hd⟩ : ∃ d, d = S % B32 := ⟨_, rfl⟩
      obtain ⟨k1, hk1⟩ : ∃ k, k = S / B32 := ⟨_, rfl⟩
      rw [← hS] at HNx HBx
      rw [← hk1] at HNx
      rw [← hd] at HBx
      have ex : IntKind.u64.wrap (x : Int) = (x : Int) := wrap_u _ (by omega) (by rw [B32_eq] at hx; omega)
      have ey : IntKind.u64.wrap (y : Int) = (y : Int) := wrap_u _ (by omega) (by rw [B32_eq] at hy; omega)
      rw [B32_eq] at hx hy
      by_cases hip : i < p
      · obtain ⟨hcL, hA⟩ := hrL.out hip
        clear hrL hzL
        generalize (A.getD ⟨0, 0, none⟩).block = b0 at *
        generalize (A.getD ⟨0, 0, none⟩).off = o0 at *
        subst hA
        by_cases hiq : i < q
        · obtain ⟨hcM, hA'⟩ := hrM.out hiq
          clear hrM hzM
          generalize (A'.getD ⟨0, 0, none⟩).block = b0' at *
          generalize (A'.getD ⟨0, 0, none⟩).off = o0' at *
          subst hA'
          obtain ⟨s1, hs1⟩ : ∃ s, s = k0 + x := ⟨_, rfl⟩
          have e1 : IntKind.u64.wrap ((k0 : Int) + (x : Int)) = (s1 : Int) := by rw [wrap_u] <;> omega
          have e2 : IntKind.u64.wrap ((s1 : Int) + (y : Int)) = (S : Int) := by rw [wrap_u] <;> omega
          replace hs1 := hide hs1
          have ed : (S : Int) % 4294967296 = (d : Int) := by rw [hd, B32_eq]; omega
          have ek : (S : Int) / 4294967296 = (k1 : Int) := by rw [hk1, B32_eq]; omega
          replace hd := hide hd
          replace hk1 := hide hk1
          replace hS := hide hS
          clear hx hy hT
          go_wp2_with fail
          exact ⟨⟨i + 1, by omega, by simp, by rw [HNx.out], Hon.out.set_ _ _, HBx.out⟩, by simp [intOf]; omega⟩
        · obtain rfl : y = 0 := hzM.out (by omega)
          clear hrM hzM
          have e1 : IntKind.u64.wrap ((k0 : Int) + (x : Int)) = (S : Int) := by rw [wrap_u] <;> omega
          have ed : (S : Int) % 4294967296 = (d : Int) := by rw [hd, B32_eq]; omega
          have ek : (S : Int) / 4294967296 = (k1 : Int) := by rw [hk1, B32_eq]; omega
          replace hd := hide hd
          replace hk1 := hide hk1
          replace hS := hide hS
          clear hx hy hT
          go_wp2_with fail
          exact ⟨⟨i + 1, by omega, by simp, by rw [HNx.out], Hon.out.set_ _ _, HBx.out⟩, by simp [intOf]; omega⟩
      · obtain rfl : x = 0 := hzL.out (by omega)
        clear hrL hzL
        by_cases hiq : i < q
        · obtain ⟨hcM, hA'⟩ := hrM.out hiq
          clear hrM hzM
          generalize (A'.getD ⟨0, 0, none⟩).block = b0' at *
          generalize (A'.getD ⟨0, 0, none⟩).off = o0' at *
          subst hA'
          have e1 : IntKind.u64.wrap ((k0 : Int) + (y : Int)) = (S : Int) := by rw [wrap_u] <;> omega
          have ed : (S : Int) % 4294967296 = (d : Int) := by rw [hd, B32_eq]; omega
          have ek : (S : Int) / 4294967296 = (k1 : Int) := by rw [hk1, B32_eq]; omega
          replace hd := hide hd
          replace hk1 := hide hk1
          replace hS := hide hS
          clear hx hy hT
          go_wp2_with fail
          exact ⟨⟨i + 1, by omega, by simp, by rw [HNx.out], Hon.out.set_ _ _, HBx.out⟩, by simp [intOf]; omega⟩
        · obtain rfl : y = 0 := hzM.out (by omega)
          clear hrM hzM
          obtain rfl : S = k0 := by omega
          clear hS
          have ed : (S : Int) % 4294967296 = (d : Int) := by rw [hd, B32_eq]; omega
          have ek : (S : Int) / 4294967296 = (k1 : Int) := by rw [hk1, B32_eq]; omega
          replace hd := hide hd
          replace hk1 := hide hk1
          clear hx hy hT
          go_wp2_with fail
          exact ⟨⟨i + 1, by omega, by simp, by rw [HNx.out], Hon.out.set_ _ _, HBx.out⟩, by simp [intOf]; omega⟩
    · obtain rfl : i = N + 1 := by omega
      have hbw : Below wc.heap.size wc wr := Only.below ((Below.refl _ _).alloc (Nat.le_refl _) _) hon (Nat.le_refl _)
      have hlt : a + b < B32 ^ (N + 1) := by
        have h1 := val_lt okL.out
        have h2 := val_lt okM.out
        rw [HP.out, HA.out] at h1
        rw [HQ.out, HB.out] at h2
        have h3 := Nat.pow_le_pow_right (n := B32) B32_pos hpN
        have h4 := Nat.pow_le_pow_right (n := B32) B32_pos hqN
        have h5 : 2 * B32 ^ N ≤ B32 ^ (N + 1) := by rw [Nat.pow_succ, Nat.mul_comm]; exact Nat.mul_le_mul_left _ (by decide)
        omega
      rw [ch_full' (by simp), vt_full L (by rw [HP.out]; omega), vt_full M (by rw [HQ.out]; omega), HA.out, HB.out, Nat.mod_eq_of_lt hlt] at hblk
      have htr := ntrim_any (some ⟨wc.heap.size, 0, none⟩) (N + 1) (fix B32 (N + 1) (a + b)) wr (fun _ => ⟨_, _, rfl, hblk.row0⟩) (by rw [fix_length]; exact Nat.le_refl _) (by rw [fix_length]; unfold lim; omega) (fix_ok B32_pos _ _)
      rw [fix_length, val_fix_of_lt hlt] at htr
      have Htr := hide htr
      have hbw := hide hbw
      clear htr hblk hon hTm hT hcl hlt
      go_wp2_with fail
      refine Htr.out.mono ?_
      rintro e w2 ⟨A2, c2, rfl, hc2, hr2, hb2⟩
      have hb2 := hide hb2
      go_wp2_with fail
      go_ret
      exact retsl_mk (below_next hbw.out hb2.out) rfl hc2 hr2
end Go.Proofs.Ytincemkjdgbnnaa

set_option linter.unusedVariables false
set_option linter.unusedSimpArgs false
namespace Go.Proofs.Ytincemkjdgbnnaa
open Go.RowKit Lm

theorem or_u32 {x y : Nat} (hx : x < B32) (hy : y < B32) : bits .or .u32 (x : Int) (y : Int) = ((x ||| y : Nat) : Int) := by
  rw [B32_eq] at hx hy
  have hlt : x ||| y < 2 ^ 32 := Nat.or_lt_two_pow (by omega) (by omega)
  have h1 : (BitVec.ofInt 32 (x : Int)).toNat = x := by rw [BitVec.ofInt_natCast, BitVec.toNat_ofNat, Nat.mod_eq_of_lt (by omega)]
  have h2 : (BitVec.ofInt 32 (y : Int)).toNat = y := by rw [BitVec.ofInt_natCast, BitVec.toNat_ofNat, Nat.mod_eq_of_lt (by omega)]
  show IntKind.u32.wrap ((BitVec.ofInt 32 (x : Int) ||| BitVec.ofInt 32 (y : Int)).toNat : Int) = _
  rw [BitVec.toNat_or, h1, h2, IntKind.wrap_u32]
  omega
theorem nth_fix32 {k n i : Nat} (h : i < k) : nth (fix B32 k n) i = n / B32 ^ i % B32 := by
  rw [nth_of_lt (by rw [fix_length]; exact h), fix_getElem]
theorem shl32_step {N i V x s : Nat} (hi : i < N) (hV : V < B32 ^ i * 2 ^ s) (hx : x < B32) (hs : s < 32) :
    ((fix B32 (N + 1) V).set i (nth (fix B32 (N + 1) V) i ||| x * 2 ^ s % B32)).set (i + 1) (nth ((fix B32 (N + 1) V).set i (nth (fix B32 (N + 1) V) i ||| x * 2 ^ s % B32)) (i + 1) ||| x * 2 ^ s / B32) = fix B32 (N + 1) (V + B32 ^ i * (x * 2 ^ s)) := by
  have h2s : 2 ^ s < B32 := Nat.pow_lt_pow_right (by decide) hs
  have hP := p32_pos i
  have hVi : V / B32 ^ i < 2 ^ s := (Nat.div_lt_iff_lt_mul hP).2 (by rw [Nat.mul_comm]; exact hV)
  have h0 : nth (fix B32 (N + 1) V) i = V / B32 ^ i := by rw [nth_fix32 (by omega), Nat.mod_eq_of_lt (by omega)]
  have h1 : nth (fix B32 (N + 1) V) (i + 1) = 0 := by
    rw [nth_fix32 (by omega), Nat.pow_succ, ← Nat.div_div_eq_div_mul, Nat.div_eq_of_lt (by omega : V / B32 ^ i < B32)]; rfl
  rw [nth_set_ne (by omega), h1, Nat.zero_or, h0]
  obtain ⟨t, ht⟩ : 2 ^ s ∣ B32 := Nat.pow_dvd_pow 2 (by omega : s ≤ 32)
  have hmod : x * 2 ^ s % B32 % 2 ^ s = 0 := by rw [Nat.mod_mod_of_dvd _ ⟨t, ht⟩, Nat.mul_mod_left]
  rw [Nat.or_comm, or_add hmod hVi]
  have hlo : x * 2 ^ s % B32 + V / B32 ^ i < B32 := by
    have h3 := Nat.mod_lt (x * 2 ^ s) B32_pos
    obtain ⟨q, hq⟩ : ∃ q, x * 2 ^ s % B32 = 2 ^ s * q := Nat.dvd_of_mod_eq_zero hmod
    rw [hq] at h3 ⊢
    have h5 : q < t := Nat.lt_of_mul_lt_mul_left (a := 2 ^ s) (by omega)
    have h6 : 2 ^ s * q + 2 ^ s ≤ 2 ^ s * t := by rw [← Nat.mul_succ]; exact Nat.mul_le_mul_left _ h5
    omega
  have hhi : x * 2 ^ s / B32 < B32 := (Nat.div_lt_iff_lt_mul B32_pos).2 (by exact Nat.mul_lt_mul'' hx h2s)
  have hw := Nat.div_add_mod (x * 2 ^ s) B32
  generalize x * 2 ^ s / B32 = hi' at *
  generalize x * 2 ^ s % B32 = lo' at *
  have hVmod := Nat.mod_add_div V (B32 ^ i)
  have hlt : V + B32 ^ i * (x * 2 ^ s) < B32 ^ (N + 1) := by
    have e1 : V + B32 ^ i * (x * 2 ^ s) = V % B32 ^ i + B32 ^ i * (lo' + V / B32 ^ i + B32 * hi') := by
      rw [← hw, Nat.mul_add, Nat.mul_add, Nat.mul_add]; omega
    have e2 : lo' + V / B32 ^ i + B32 * hi' < B32 * B32 := by
      have : B32 * hi' + B32 ≤ B32 * B32 := by rw [← Nat.mul_succ]; exact Nat.mul_le_mul_left _ hhi
      omega
    have e3 : B32 ^ i * (lo' + V / B32 ^ i + B32 * hi') + B32 ^ i ≤ B32 ^ i * (B32 * B32) := by rw [← Nat.mul_succ]; exact Nat.mul_le_mul_left _ e2
    have e4 : B32 ^ i * (B32 * B32) = B32 ^ (i + 2) := by rw [Nat.pow_succ, Nat.pow_succ, Nat.mul_assoc]
    have e5 := Nat.pow_le_pow_right (n := B32) B32_pos (show i + 2 ≤ N + 1 by omega)
    have e6 := Nat.mod_lt V hP
    omega
  refine val_inj (Ok.set (Ok.set (fix_ok B32_pos _ _) hlo) hhi) (fix_ok B32_pos _ _) (by simp [fix_length]) ?_
  have s1 := val_set (B := B32) (fix B32 (N + 1) V) i (lo' + V / B32 ^ i) (by rw [fix_length]; omega)
  rw [← nth_of_lt (by rw [fix_length]; omega), h0] at s1
  have s2 := val_set (B := B32) ((fix B32 (N + 1) V).set i (lo' + V / B32 ^ i)) (i + 1) hi' (by simp [fix_length]; omega)
  rw [← nth_of_lt (by simp [fix_length]; omega), nth_set_ne (by omega), h1] at s2
  rw [val_fix_of_lt (show V < B32 ^ (N + 1) by omega), Nat.mul_add] at s1
  rw [val_fix_of_lt hlt]
  rw [Nat.mul_zero, Nat.add_zero] at s2
  have e7 : B32 ^ i * (x * 2 ^ s) = B32 ^ (i + 1) * hi' + B32 ^ i * lo' := by rw [← hw, Nat.mul_add, Nat.pow_succ, Nat.mul_assoc]
  omega

set_option maxRecDepth 100000 in
set_option maxHeartbeats 1600000 in
theorem nshl_any (A : Option Addr) (c a s : Nat) (w : World) (hs : s < 32) (hr : Rd w .u32 A (digs B32 a)) (hc : (digs B32 a).length ≤ c) (hlim : (digs B32 a).length < lim) :
    Calls Try.prog 138 #[.slice A (digs B32 a).length c, .int .i64 (s : Int)] w (RetSl w .u32 (digs B32 (a * 2 ^ s))) := by
  have HA := hide (val_digs B32_ge a)
  have okL := hide (digs_ok B32_ge a)
  unfold lim at hlim
  generalize digs B32 a = L at *
  generalize hp : L.length = p at *
  have HP := hide hp; clear hp
  have iq : (s : Int) / 32 = 0 := by omega
  have ir : (s : Int) % 32 = (s : Int) := by omega
  have hmk := mk_u32 ((p : Int) + 1) (p + 1) (by omega) (by unfold lim; omega)
  have iw := wrap_in ((p : Int) + 1) (by omega) (by omega)
  go_enter Try.func138, Try.ntmps138
  go_wp2_with fail
  clear hmk iw
  go_loopw [6, 7] (fun k _ wr => ∃ i : Nat, i ≤ p ∧ k = .int .i64 i ∧ Only (w.alloc (nblk .u32 95 (List.replicate (p + 1) 0))) wr w.heap.size ∧
    Blk wr w.heap.size 95 .u32 (fix B32 (p + 1) (val B32 (L.take i) * 2 ^ s))) (fun k _ _ => p - (intOf k).toNat)
  case atStart =>
    refine ⟨0, Nat.zero_le _, rfl, Only.refl _ _, ?_⟩
    have : fix B32 (p + 1) (val B32 (L.take 0) * 2 ^ s) = List.replicate (p + 1) 0 := by
      refine val_inj (fix_ok B32_pos _ _) (Ok.replicate B32_pos _) (by rw [fix_length, List.length_replicate]) ?_
      rw [val_replicate, val_fix]; simp [val]
    rw [this]
    exact Blk.new _ _ _ _
  case round =>
    obtain ⟨i, hi, rfl, hon, hblk⟩ := hrel
    by_cases hlt : i < p
    · obtain ⟨b0, off, rfl, hrow⟩ := hr (by rw [HP.out]; omega)
      have hbw := hrow.lt (by rw [HP.out]; omega)
      have hcell := (hon.row (hrow.below ((Below.refl _ _).alloc (Nat.le_refl _) _)) (by omega)) i (by rw [HP.out]; exact hlt)
      have hx : nth L i < B32 := Ok.getD B32_pos okL.out _
      have hV : val B32 (L.take i) * 2 ^ s < B32 ^ i * 2 ^ s := Nat.mul_lt_mul_of_pos_right (vt_lt okL.out B32_pos i) (Nat.pow_pos (by omega))
      have hst := shl32_step (N := p) hlt hV hx hs
      have hVn : val B32 (L.take i) * 2 ^ s + B32 ^ i * (nth L i * 2 ^ s) = val B32 (L.take (i + 1)) * 2 ^ s := by
        rw [vt_succ', Nat.add_mul, Nat.mul_assoc]
      rw [hVn] at hst
      have hc0 := hblk.cell (i := i) (by rw [fix_length]; omega)
      have hc1 := hblk.cell (i := i + 1) (by rw [fix_length]; omega)
      have hf0 := hblk.frozen i
      have hf1 := hblk.frozen (i + 1)
      have hy0 : nth (fix B32 (p + 1) (val B32 (L.take i) * 2 ^ s)) i < B32 := Ok.getD B32_pos (fix_ok B32_pos _ _) _
      have hy1 : nth (fix B32 (p + 1) (val B32 (L.take i) * 2 ^ s)) (i + 1) < B32 := Ok.getD B32_pos (fix_ok B32_pos _ _) _
      rw [nth_set_ne (by omega)] at hst
      have Hst := hide hst
      have Hblk := hide hblk
      have Hon := hide hon
      have h2s : 2 ^ s ≤ 2147483648 := Nat.pow_le_pow_right (by omega) (show s ≤ 31 by omega)
      have hW : nth L i * 2 ^ s < B64 := by
        have : nth L i * 2 ^ s ≤ nth L i * 2147483648 := Nat.mul_le_mul_left _ h2s
        rw [B32_eq] at hx; rw [B64_eq]; omega
      clear hrow hst hblk hon hV hVn hbw hr
      generalize fix B32 (p + 1) (val B32 (L.take i) * 2 ^ s) = F at *
      generalize nth L i = x at *
      generalize nth F i = y0 at *
      generalize nth F (i + 1) = y1 at *
      obtain ⟨W, hWe⟩ : ∃ W, W = x * 2 ^ s := ⟨_, rfl⟩
      have ew : IntKind.u64.wrap ((x : Int) * 2 ^ s) = (W : Int) := by
        have e : ((x : Int) * 2 ^ s) = ((x * 2 ^ s : Nat) : Int) := by simp
        rw [e, ← hWe]; exact u64_small W (by rw [hWe]; exact hW)
      rw [← hWe] at hW Hst
      replace hWe := hide hWe
      obtain ⟨lo, hlo⟩ : ∃ l, l = W % B32 := ⟨_, rfl⟩
      obtain ⟨hi', hhi⟩ : ∃ l, l = W / B32 := ⟨_, rfl⟩
      have el : (W : Int) % 4294967296 = (lo : Int) := by rw [hlo, B32_eq]; omega
      have eh : (W : Int) / 4294967296 = (hi' : Int) := by rw [hhi, B32_eq]; omega
      rw [← hlo, ← hhi] at Hst
      have hloB : lo < B32 := by rw [hlo]; exact Nat.mod_lt _ B32_pos
      have hhiB : hi' < B32 := by rw [hhi]; exact (Nat.div_lt_iff_lt_mul B32_pos).2 (Nat.lt_of_lt_of_le hW (by decide))
      have eh2 : (hi' : Int) % 4294967296 = (hi' : Int) := by rw [B32_eq] at hhiB; omega
      replace hlo := hide hlo
      replace hhi := hide hhi
      have Ho0 := hide (or_u32 hy0 hloB)
      have Ho1 := hide (or_u32 hy1 hhiB)
      have ex : IntKind.u64.wrap (x : Int) = (x : Int) := wrap_u _ (by omega) (by rw [B32_eq] at hx; omega)
      have i1 := wrap_in ((i : Int) + 1) (by omega) (by omega)
      have i2 : (i : Int) + 1 < (p : Int) + 1 := by omega
      have i3 : ((i : Int) + 1).toNat = i + 1 := by omega
      have i4 : (0 : Int) ≤ (i : Int) + 1 := by omega
      go_wp2_with fail
      have hb2 := (Hblk.out.set_ i Ho0.out).set_ (i + 1) Ho1.out
      rw [Hst.out] at hb2
      exact ⟨⟨i + 1, by omega, by simp, (Hon.out.set_ _ _).set_ _ _, hb2⟩, by simp [intOf]; omega⟩
    · obtain rfl : i = p := by omega
      have hbw : Below w.heap.size w wr := Only.below ((Below.refl _ _).alloc (Nat.le_refl _) _) hon (Nat.le_refl _)
      have hlt : a * 2 ^ s < B32 ^ (i + 1) := by
        have h1 := val_lt okL.out
        rw [HP.out, HA.out] at h1
        have h2s : 2 ^ s < B32 := Nat.pow_lt_pow_right (by decide) hs
        rw [Nat.pow_succ]
        exact Nat.mul_lt_mul'' h1 h2s
      rw [vt_full L (by rw [HP.out]; exact Nat.le_refl _), HA.out] at hblk
      have htr := ntrim_any (some ⟨w.heap.size, 0, none⟩) (i + 1) (fix B32 (i + 1) (a * 2 ^ s)) wr (fun _ => ⟨_, _, rfl, hblk.row0⟩) (by rw [fix_length]; exact Nat.le_refl _) (by rw [fix_length]; unfold lim; omega) (fix_ok B32_pos _ _)
      rw [fix_length, val_fix_of_lt hlt] at htr
      have Htr := hide htr
      have hbw := hide hbw
      clear htr hblk hon hlt
      go_wp2_with fail
      refine Htr.out.mono ?_
      rintro e w2 ⟨A2, c2, rfl, hc2, hr2, hb2⟩
      have hb2 := hide hb2
      go_wp2_with fail
      go_ret
      exact retsl_mk (below_next hbw.out hb2.out) rfl hc2 hr2
end Go.Proofs.Ytincemkjdgbnnaa

set_option linter.unusedVariables false
set_option linter.unusedSimpArgs false
namespace Go.Proofs.Ytincemkjdgbnnaa
open Go.RowKit Lm

/-- the number that the first i digits are. -/
def hv (s : ByteArray) (i : Nat) : Nat := val 16 (((s.data.toList.map fun c => hexd c.toNat).take i).reverse)
theorem hv_zero (s : ByteArray) : hv s 0 = 0 := by simp [hv, val]
theorem hv_full (s : ByteArray) {i : Nat} (h : s.size ≤ i) : hv s i = val 16 (sdig s) := by
  unfold hv sdig
  rw [List.take_of_length_le (by simpa using h)]
theorem hv_succ (s : ByteArray) {i : Nat} (h : i < s.size) : hv s (i + 1) = hv s i * 2 ^ 4 + hexd (s[i]'h).toNat := by
  unfold hv
  have hl : i < (s.data.toList.map fun c => hexd c.toNat).length := by simpa using h
  have e : (s.data.toList.map fun c => hexd c.toNat)[i] = hexd (s[i]'h).toNat := by simp; rfl
  rw [List.take_succ_eq_append_getElem hl, List.reverse_append, List.reverse_singleton, List.singleton_append, e]
  simp only [val]
  omega
theorem hv_lt {s : ByteArray} (hx : ∀ (i : Nat) (h : i < s.size), isHex (s[i]'h).toNat) (i : Nat) : hv s i < 16 ^ i := by
  have hok : Ok 16 ((s.data.toList.map fun c => hexd c.toNat).take i).reverse := fun x h => by
    have := sdig_ok hx x
    refine this ?_
    unfold sdig
    rw [List.mem_reverse] at h ⊢
    exact List.mem_of_mem_take h
  have h1 := val_lt hok
  rw [List.length_reverse, List.length_take] at h1
  exact Nat.lt_of_lt_of_le h1 (Nat.pow_le_pow_right (by omega) (by omega))
theorem hv_short {s : ByteArray} (hx : ∀ (i : Nat) (h : i < s.size), isHex (s[i]'h).toNat) (i : Nat) : (digs B32 (hv s i)).length ≤ i :=
  digs_length_le B32_ge (Nat.lt_of_lt_of_le (hv_lt hx i) (Nat.pow_le_pow_left (by decide) i))

set_option maxRecDepth 100000 in
set_option maxHeartbeats 1600000 in
theorem rhex_any (s : ByteArray) (w : World) (m : Nat) (hsz : s.size = m) (hm : m ≤ 1000) (hx : ∀ (i : Nat) (h : i < s.size), isHex (s[i]'h).toNat) :
    Calls Try.prog 108 #[.string s] w (RetSl w .u32 (digs B32 (val 16 (sdig s)))) := by
  have Hx := hide hx
  have Hsh := hide (hv_short hx)
  clear hx
  have Hsz := hide hsz
  go_enter Try.func108, Try.ntmps108
  go_wp2_with fail
  go_loopw [3, 4, 5] (fun n k _ wr => ∃ i : Nat, i ≤ m ∧ k = .int .i64 i ∧ (∃ A c, n = .slice A (digs B32 (hv s i)).length c ∧ (digs B32 (hv s i)).length ≤ c ∧ Rd wr .u32 A (digs B32 (hv s i))) ∧ Below w.heap.size w wr) (fun _ k _ _ => m - (intOf k).toNat)
  case atStart =>
    exact ⟨0, Nat.zero_le _, rfl, ⟨none, 0, by rw [hv_zero, digs_zero]; rfl, by rw [hv_zero, digs_zero]; exact Nat.le_refl _, by rw [hv_zero, digs_zero]; exact Rd.nil _ _ _⟩, Below.refl _ _⟩
  case round =>
    obtain ⟨i, hi, rfl, ⟨A, c, rfl, hc, hrd⟩, hbw⟩ := hrel
    by_cases hlt : i < m
    · have hls : i < s.size := by rw [Hsz.out]; exact hlt
      have hh := Hx.out i hls
      have hsu := hide (hv_succ s hls)
      have hidx : ∀ W, (Instr.index 9 (.string s) (.int .i64 (i : Int))).run Try.prog W = .ok (.int .u8 ((s[i]'hls).toNat : Int)) W := fun W => by
        rw [run_index_string _ _ _ _ _ Try.underlying9]
        rw [dif_pos (by omega)]
        simp
      have hl1 := Hsh.out i
      obtain ⟨x, hxe⟩ : ∃ x, x = (s[i]'hls).toNat := ⟨_, rfl⟩
      rw [← hxe] at hidx hh hsu
      have hd16 := hide (hexd_lt hh)
      have Hshl := hide (nshl_any A c (hv s i) 4 wr (by omega) hrd hc (by unfold lim; omega))
      have hl2 := hide (show (digs B32 (hv s i * 2 ^ 4)).length < lim by
        have h1 : hv s i * 2 ^ 4 < 16 ^ (i + 1) := by rw [Nat.pow_succ]; exact Nat.mul_lt_mul_of_pos_right (hv_lt Hx.out i) (by omega)
        have h2 := digs_length_le B32_ge (Nat.lt_of_lt_of_le h1 (Nat.pow_le_pow_left (by decide : 16 ≤ B32) (i + 1)))
        unfold lim; omega)
      replace hxe := hide hxe
      have hbw := hide hbw
      replace hh := hide hh
      have hl3 := hide (show (digs B32 (hexd x)).length < lim by
        have := digs_length_le B32_ge (k := 1) (show hexd x < B32 ^ 1 by rw [Nat.pow_one]; exact Nat.lt_trans hd16.out (by decide))
        unfold lim; omega)
      by_cases h97 : 97 ≤ x
      · have h97i : (97 : Int) ≤ (x : Int) := by omega
        have e6 : ((x : Int) - 97) % 256 + 10 = (hexd x : Int) := by
          have := hh.out; unfold isHex at this; unfold hexd; rw [if_pos h97]; omega
        go_wp2_with (first
          | (go_at_call 138; refine Hshl.out.mono ?_; rintro e w1 ⟨A1, c1, rfl, hc1, hr1, hb1⟩; replace hb1 := hide hb1; replace hr1 := hide hr1; replace hc1 := hide hc1)
          | (go_at_call 29; refine (nof_any (hexd x) w1 (Nat.lt_trans hd16.out (by decide))).mono ?_; rintro e w2 ⟨A2, c2, rfl, hc2, hr2, hb2⟩; replace hb2 := hide hb2; replace hr2 := hide hr2; replace hc2 := hide hc2)
          | (go_at_call 15; refine (nadd_any A1 A2 c1 c2 (hv s i * 2 ^ 4) (hexd x) w2 (hr1.out.below hb2.out) hc1.out hl2.out hr2.out hc2.out hl3.out).mono ?_; rintro e w3 ⟨A3, c3, rfl, hc3, hr3, hb3⟩; replace hb3 := hide hb3; replace hr3 := hide hr3; replace hc3 := hide hc3))
        refine ⟨⟨i + 1, by omega, by simp, ⟨A3, c3, by rw [hsu.out], by rw [hsu.out]; exact hc3.out, by rw [hsu.out]; exact hr3.out⟩, below_next (below_next (below_next hbw.out hb1.out) hb2.out) hb3.out⟩, by simp [intOf]; omega⟩
      · have h97i : ¬ (97 : Int) ≤ (x : Int) := by omega
        have e6 : ((x : Int) - 48) % 256 = (hexd x : Int) := by
          have := hh.out; unfold isHex at this; unfold hexd; rw [if_neg h97]; omega
        go_wp2_with (first
          | (go_at_call 138; refine Hshl.out.mono ?_; rintro e w1 ⟨A1, c1, rfl, hc1, hr1, hb1⟩; replace hb1 := hide hb1; replace hr1 := hide hr1; replace hc1 := hide hc1)
          | (go_at_call 29; refine (nof_any (hexd x) w1 (Nat.lt_trans hd16.out (by decide))).mono ?_; rintro e w2 ⟨A2, c2, rfl, hc2, hr2, hb2⟩; replace hb2 := hide hb2; replace hr2 := hide hr2; replace hc2 := hide hc2)
          | (go_at_call 15; refine (nadd_any A1 A2 c1 c2 (hv s i * 2 ^ 4) (hexd x) w2 (hr1.out.below hb2.out) hc1.out hl2.out hr2.out hc2.out hl3.out).mono ?_; rintro e w3 ⟨A3, c3, rfl, hc3, hr3, hb3⟩; replace hb3 := hide hb3; replace hr3 := hide hr3; replace hc3 := hide hc3))
        refine ⟨⟨i + 1, by omega, by simp, ⟨A3, c3, by rw [hsu.out], by rw [hsu.out]; exact hc3.out, by rw [hsu.out]; exact hr3.out⟩, below_next (below_next (below_next hbw.out hb1.out) hb2.out) hb3.out⟩, by simp [intOf]; omega⟩
    · obtain rfl : i = m := by omega
      have hf := hide (hv_full s (i := i) (by rw [hsz]; exact Nat.le_refl _))
      rw [hf.out] at hc hrd ⊢
      replace hc := hide hc
      replace hrd := hide hrd
      replace hbw := hide hbw
      go_wp2_with fail
      go_ret
      exact retsl_mk hbw.out rfl hc.out hrd.out
end Go.Proofs.Ytincemkjdgbnnaa

set_option linter.unusedVariables false
set_option linter.unusedSimpArgs false
namespace Go.Proofs.Ytincemkjdgbnnaa
open Go.RowKit Lm

/-- the reference's field, by value: its prime's digits, its size. -/
def vF (A : Option Addr) (P c size : Nat) : List Value := [.slice A (digs B32 P).length c, .int .i64 (size : Int)]
theorem Try.szF : (Try.prog.info? 32).map (·.size) = some 2 := by kernel_rfl
theorem Try.zrF : (Try.prog.info? 32).map (·.zero) = some (some (.agg ([.slice none 0 0, .int .i64 0] : List Value).toArray)) := by kernel_rfl
theorem szVF (A : Option Addr) (P c size : Nat) : (Try.prog.info? 32).map (·.size) = some (vF A P c size).length := Try.szF
theorem szV0 : (Try.prog.info? 32).map (·.size) = some ([.slice none 0 0, .int .i64 0] : List Value).length := Try.szF
/-- a list that lies in another block than a block without such cells. -/
theorem Rd.apart {w w' : World} {k : IntKind} {A : Option Addr} {l : List Nat} {b : Nat} {t : TypeId} {L : List Value} (h : Rd w k A l) (hv : VB w b t L) (hL : ∀ x ∈ L, ∀ n, x ≠ .int k n) (ho : Only w w' b) : Rd w' k A l := fun hl => by
  obtain ⟨b', off, rfl, hrow⟩ := h hl
  refine ⟨b', off, rfl, ho.row hrow fun e => ?_⟩
  subst e
  have := hrow 0 hl
  rw [hv.cell] at this
  exact hL _ (List.mem_of_getElem? this) _ rfl
theorem noU32 : ∀ x ∈ ([.slice none 0 0, .int .i64 0] : List Value), ∀ n, x ≠ .int .u32 n := fun x h n => by
  simp only [List.mem_cons, List.not_mem_nil, or_false] at h
  rcases h with rfl | rfl <;> simp
/-- a call hands back the reference's field. -/
def RetRF (w : World) (P size : Nat) (e : Ending) (w' : World) : Prop :=
  ∃ A c, e = .returned (.tuple #[.agg (vF A P c size).toArray, .bool true]) ∧ (digs B32 P).length ≤ c ∧ Rd w' .u32 A (digs B32 P) ∧ Below w.heap.size w w'

/-- the end of a function with two results: a struct that lies in a block, and a slot. -/
theorem retFT {fn : Func} {R : Ending → World → Prop} {a : Act} {w : World} {p u : Tmp} (hr : fn.results = #[.cell p 32, .tmp u]) {b : Nat} {L : List Value} {t : TypeId} (hp : a.tmps.getD p undef = .pointer (some ⟨b, 0, none⟩)) {z : Value} (hz : a.tmps.getD u undef = z)
    (hv : VB w b t L) (hl2 : L.length = 2) (hdf : a.defers = []) (hR : R (.returned (.tuple #[.agg L.toArray, z])) w) : bodyPost Try.prog fn R .ret a w := by
  refine bodyPost_ret (v := .tuple #[.agg L.toArray, z]) ?_ hdf hR
  have hl := run_loadVar_row (P := Try.prog) w b t 32 L.toArray (0, 0) _ hv Try.underlying32 rfl (by rw [Try.szF]; simp [hl2])
  rw [results_cell_tmp hr, hp, hz]
  simp only [asAddr, Sem.run_pure, Result.andThen_ok, hl]

theorem rhex_k {k : Int} (hk : isKind k) (w : World) : Calls Try.prog 108 #[.string (pstr k)] w (RetSl w .u32 (digs B32 (kP k))) := by
  have hK := kok hk
  have h := rhex_any (pstr k) w _ hK.sz (by have := hK.n6; omega) hK.hx
  rwa [hK.vl] at h

set_option maxRecDepth 100000 in
theorem rof_1 (w : World) : Calls Try.prog 60 #[.int .i64 1] w (RetRF w (kP 1) 32) := by
  have Hx := hide (fun W => rhex_k (k := 1) (by unfold isKind; omega) W)
  generalize kP 1 = P at *
  go_enter Try.func60, Try.ntmps60
  go_wp2_with (first
    | ((with_reducible refine wpList_alloc (o := ⟨some 2, _, _, _, _, _⟩) ?_ 32 ?_ [.slice none 0 0, .int .i64 0] Try.zrF ?_); rfl; rfl; intro w1 b1 h1 hv1 h3 h4; have hn1 : New w w1 b1 := ⟨by rw [h1]; exact Nat.le_refl _, by rw [h4]; omega, h3⟩; clear h1 h3 h4)
    | (go_at_call 108; refine (Hx.out w1).mono ?_; rintro e w2 ⟨A2, c2, rfl, hc2, hr2, hb2⟩; replace hc2 := hide hc2; replace hr2 := hide hr2; replace hb2 := hide hb2)
    | ((with_reducible refine wpList_storeW (o := ⟨none, _, _, _, _, _⟩) ?_ 32 (.tmp 2) (.tmp 8) ?_ ?_ (hv1.next hb2.out) (vF A2 P c2 32) ?_ (szVF _ _ _ _) ?_ ?_ ?_); rfl; rfl; rfl; rfl; rfl; rfl; intro w3 hv3 ho3; replace ho3 := hide ho3))
  refine retFT rfl rfl rfl hv3 rfl rfl ⟨A2, c2, rfl, hc2.out, ?_, Only.below (below_next hn1.bl hb2.out) ho3.out hn1.lo⟩
  exact hr2.out.apart (hv1.next hb2.out) noU32 ho3.out

set_option maxRecDepth 100000 in
theorem rof_2 (w : World) : Calls Try.prog 60 #[.int .i64 2] w (RetRF w (kP 2) 32) := by
  have Hx := hide (fun W => rhex_k (k := 2) (by unfold isKind; omega) W)
  generalize kP 2 = P at *
  go_enter Try.func60, Try.ntmps60
  go_wp2_with (first
    | ((with_reducible refine wpList_alloc (o := ⟨some 2, _, _, _, _, _⟩) ?_ 32 ?_ [.slice none 0 0, .int .i64 0] Try.zrF ?_); rfl; rfl; intro w1 b1 h1 hv1 h3 h4; have hn1 : New w w1 b1 := ⟨by rw [h1]; exact Nat.le_refl _, by rw [h4]; omega, h3⟩; clear h1 h3 h4)
    | (go_at_call 108; refine (Hx.out w1).mono ?_; rintro e w2 ⟨A2, c2, rfl, hc2, hr2, hb2⟩; replace hc2 := hide hc2; replace hr2 := hide hr2; replace hb2 := hide hb2)
    | ((with_reducible refine wpList_storeW (o := ⟨none, _, _, _, _, _⟩) ?_ 32 (.tmp 2) (.tmp 12) ?_ ?_ (hv1.next hb2.out) (vF A2 P c2 32) ?_ (szVF _ _ _ _) ?_ ?_ ?_); rfl; rfl; rfl; rfl; rfl; rfl; intro w3 hv3 ho3; replace ho3 := hide ho3))
  refine retFT rfl rfl rfl hv3 rfl rfl ⟨A2, c2, rfl, hc2.out, ?_, Only.below (below_next hn1.bl hb2.out) ho3.out hn1.lo⟩
  exact hr2.out.apart (hv1.next hb2.out) noU32 ho3.out

set_option maxRecDepth 100000 in
theorem rof_3 (w : World) : Calls Try.prog 60 #[.int .i64 3] w (RetRF w (kP 3) 32) := by
  have Hx := hide (fun W => rhex_k (k := 3) (by unfold isKind; omega) W)
  generalize kP 3 = P at *
  go_enter Try.func60, Try.ntmps60
  go_wp2_with (first
    | ((with_reducible refine wpList_alloc (o := ⟨some 2, _, _, _, _, _⟩) ?_ 32 ?_ [.slice none 0 0, .int .i64 0] Try.zrF ?_); rfl; rfl; intro w1 b1 h1 hv1 h3 h4; have hn1 : New w w1 b1 := ⟨by rw [h1]; exact Nat.le_refl _, by rw [h4]; omega, h3⟩; clear h1 h3 h4)
    | (go_at_call 108; refine (Hx.out w1).mono ?_; rintro e w2 ⟨A2, c2, rfl, hc2, hr2, hb2⟩; replace hc2 := hide hc2; replace hr2 := hide hr2; replace hb2 := hide hb2)
    | ((with_reducible refine wpList_storeW (o := ⟨none, _, _, _, _, _⟩) ?_ 32 (.tmp 2) (.tmp 16) ?_ ?_ (hv1.next hb2.out) (vF A2 P c2 32) ?_ (szVF _ _ _ _) ?_ ?_ ?_); rfl; rfl; rfl; rfl; rfl; rfl; intro w3 hv3 ho3; replace ho3 := hide ho3))
  refine retFT rfl rfl rfl hv3 rfl rfl ⟨A2, c2, rfl, hc2.out, ?_, Only.below (below_next hn1.bl hb2.out) ho3.out hn1.lo⟩
  exact hr2.out.apart (hv1.next hb2.out) noU32 ho3.out

set_option maxRecDepth 100000 in
theorem rof_4 (w : World) : Calls Try.prog 60 #[.int .i64 4] w (RetRF w (kP 4) 32) := by
  have Hx := hide (fun W => rhex_k (k := 4) (by unfold isKind; omega) W)
  generalize kP 4 = P at *
  go_enter Try.func60, Try.ntmps60
  go_wp2_with (first
    | ((with_reducible refine wpList_alloc (o := ⟨some 2, _, _, _, _, _⟩) ?_ 32 ?_ [.slice none 0 0, .int .i64 0] Try.zrF ?_); rfl; rfl; intro w1 b1 h1 hv1 h3 h4; have hn1 : New w w1 b1 := ⟨by rw [h1]; exact Nat.le_refl _, by rw [h4]; omega, h3⟩; clear h1 h3 h4)
    | (go_at_call 108; refine (Hx.out w1).mono ?_; rintro e w2 ⟨A2, c2, rfl, hc2, hr2, hb2⟩; replace hc2 := hide hc2; replace hr2 := hide hr2; replace hb2 := hide hb2)
    | ((with_reducible refine wpList_storeW (o := ⟨none, _, _, _, _, _⟩) ?_ 32 (.tmp 2) (.tmp 20) ?_ ?_ (hv1.next hb2.out) (vF A2 P c2 32) ?_ (szVF _ _ _ _) ?_ ?_ ?_); rfl; rfl; rfl; rfl; rfl; rfl; intro w3 hv3 ho3; replace ho3 := hide ho3))
  refine retFT rfl rfl rfl hv3 rfl rfl ⟨A2, c2, rfl, hc2.out, ?_, Only.below (below_next hn1.bl hb2.out) ho3.out hn1.lo⟩
  exact hr2.out.apart (hv1.next hb2.out) noU32 ho3.out

set_option maxRecDepth 100000 in
theorem rof_5 (w : World) : Calls Try.prog 60 #[.int .i64 5] w (RetRF w (kP 5) 48) := by
  have Hx := hide (fun W => rhex_k (k := 5) (by unfold isKind; omega) W)
  generalize kP 5 = P at *
  go_enter Try.func60, Try.ntmps60
  go_wp2_with (first
    | ((with_reducible refine wpList_alloc (o := ⟨some 2, _, _, _, _, _⟩) ?_ 32 ?_ [.slice none 0 0, .int .i64 0] Try.zrF ?_); rfl; rfl; intro w1 b1 h1 hv1 h3 h4; have hn1 : New w w1 b1 := ⟨by rw [h1]; exact Nat.le_refl _, by rw [h4]; omega, h3⟩; clear h1 h3 h4)
    | (go_at_call 108; refine (Hx.out w1).mono ?_; rintro e w2 ⟨A2, c2, rfl, hc2, hr2, hb2⟩; replace hc2 := hide hc2; replace hr2 := hide hr2; replace hb2 := hide hb2)
    | ((with_reducible refine wpList_storeW (o := ⟨none, _, _, _, _, _⟩) ?_ 32 (.tmp 2) (.tmp 24) ?_ ?_ (hv1.next hb2.out) (vF A2 P c2 48) ?_ (szVF _ _ _ _) ?_ ?_ ?_); rfl; rfl; rfl; rfl; rfl; rfl; intro w3 hv3 ho3; replace ho3 := hide ho3))
  refine retFT rfl rfl rfl hv3 rfl rfl ⟨A2, c2, rfl, hc2.out, ?_, Only.below (below_next hn1.bl hb2.out) ho3.out hn1.lo⟩
  exact hr2.out.apart (hv1.next hb2.out) noU32 ho3.out

set_option maxRecDepth 100000 in
theorem rof_6 (w : World) : Calls Try.prog 60 #[.int .i64 6] w (RetRF w (kP 6) 32) := by
  have Hx := hide (fun W => rhex_k (k := 6) (by unfold isKind; omega) W)
  generalize kP 6 = P at *
  go_enter Try.func60, Try.ntmps60
  go_wp2_with (first
    | ((with_reducible refine wpList_alloc (o := ⟨some 2, _, _, _, _, _⟩) ?_ 32 ?_ [.slice none 0 0, .int .i64 0] Try.zrF ?_); rfl; rfl; intro w1 b1 h1 hv1 h3 h4; have hn1 : New w w1 b1 := ⟨by rw [h1]; exact Nat.le_refl _, by rw [h4]; omega, h3⟩; clear h1 h3 h4)
    | (go_at_call 108; refine (Hx.out w1).mono ?_; rintro e w2 ⟨A2, c2, rfl, hc2, hr2, hb2⟩; replace hc2 := hide hc2; replace hr2 := hide hr2; replace hb2 := hide hb2)
    | ((with_reducible refine wpList_storeW (o := ⟨none, _, _, _, _, _⟩) ?_ 32 (.tmp 2) (.tmp 28) ?_ ?_ (hv1.next hb2.out) (vF A2 P c2 32) ?_ (szVF _ _ _ _) ?_ ?_ ?_); rfl; rfl; rfl; rfl; rfl; rfl; intro w3 hv3 ho3; replace ho3 := hide ho3))
  refine retFT rfl rfl rfl hv3 rfl rfl ⟨A2, c2, rfl, hc2.out, ?_, Only.below (below_next hn1.bl hb2.out) ho3.out hn1.lo⟩
  exact hr2.out.apart (hv1.next hb2.out) noU32 ho3.out

theorem rof_c (k : Int) (w : World) (hk : isKind k) : Calls Try.prog 60 #[.int .i64 k] w (RetRF w (kP k) (ksz k)) := by
  rcases hk with rfl | rfl | rfl | rfl | rfl | rfl
  · exact rof_1 w
  · exact rof_2 w
  · exact rof_3 w
  · exact rof_4 w
  · exact rof_5 w
  · exact rof_6 w

set_option maxRecDepth 100000 in
theorem rof_none (k : Int) (w : World) (hk : ¬ isKind k) : Calls Try.prog 60 #[.int .i64 k] w fun e w' =>
    e = .returned (.tuple #[.agg ([.slice none 0 0, .int .i64 0] : List Value).toArray, .bool false]) ∧ Below w.heap.size w w' := by
  unfold isKind at hk
  have h1 : ¬ k = 1 := by omega
  have h2 : ¬ k = 2 := by omega
  have h3 : ¬ k = 3 := by omega
  have h4 : ¬ k = 4 := by omega
  have h5 : ¬ k = 5 := by omega
  have h6 : ¬ k = 6 := by omega
  go_enter Try.func60, Try.ntmps60
  go_wp2_with (first
    | ((with_reducible refine wpList_alloc (o := ⟨some 2, _, _, _, _, _⟩) ?_ 32 ?_ [.slice none 0 0, .int .i64 0] Try.zrF ?_); rfl; rfl; intro w1 b1 h1 hv1 h3 h4; have hn1 : New w w1 b1 := ⟨by rw [h1]; exact Nat.le_refl _, by rw [h4]; omega, h3⟩; clear h1 h3 h4)
    | ((with_reducible refine wpList_storeW (o := ⟨none, _, _, _, _, _⟩) ?_ 32 (.tmp 2) (.tmp 29) ?_ ?_ hv1 [.slice none 0 0, .int .i64 0] ?_ szV0 ?_ ?_ ?_); rfl; rfl; rfl; rfl; rfl; rfl; intro w3 hv3 ho3; replace ho3 := hide ho3))
  exact retFT rfl rfl rfl hv3 rfl rfl ⟨rfl, Only.below hn1.bl ho3.out hn1.lo⟩
end Go.Proofs.Ytincemkjdgbnnaa

set_option linter.unusedVariables false
set_option linter.unusedSimpArgs false
namespace Go.Proofs.Ytincemkjdgbnnaa
open Go.RowKit Lm

theorem wpList_of_wp {P : Program} {ops : Array Oper} {rest : List Oper} {o : Oper} {a : Act} {w : World} {Q : Exit → Act → World → Prop} (hw : Region.wanted o (yielded ops a.tmps) = true) (h : o.wp P a w (wpList P ops Q rest) Q) :
    wpList P ops Q (o :: rest) a w := by
  unfold wpList; rw [if_pos hw]; exact .inl h

set_option maxRecDepth 100000 in
set_option maxHeartbeats 1600000 in
theorem wakes_any (w : World) : Calls Try.prog 61 #[] w fun e w' => e = .returned (.bool true) ∧ Below w.heap.size w w' := by
  have Hnew := hide (fnew_c 3 w (by unfold isKind; omega))
  have e32 : ksz 3 = 32 := rfl
  have hP := hide (show kP 3 = 21888242871839275222246405745257275088696311157297823662689037894645226208583 from rfl)
  have Hnew2 : Hid (Calls Try.prog 59 #[.int .i64 3] w fun e w' => ∃ b bm, e = .returned (.tuple #[.pointer (some ⟨b, 0, none⟩), .int .i64 0]) ∧ FQ w' b bm (kP 3) (kn 3) 32 ∧ w.heap.size ≤ b ∧ w.heap.size ≤ bm ∧ Below w.heap.size w w') := Hnew.out
  clear Hnew e32
  generalize kP 3 = P at *
  generalize kn 3 = n at *
  go_enter Try.func61, Try.ntmps61
  go_upto_region 5 with (first
    | (go_at_call 59; refine Hnew2.out.mono ?_; rintro e w1 ⟨b, bm, rfl, hF, hg1, hg2, hB⟩; replace hF := hide hF; replace hB := hide hB)
    | (go_at_call 31; refine (fsize_c b bm P n 32 w1 hF.out).mono ?_; rintro e w2 ⟨rfl, rfl⟩)
    | (go_at_call 30; refine (fmodulus_c b bm P n 32 _ hF.out).mono ?_; rintro e w3 ⟨rfl, hb3⟩; replace hb3 := hide hb3)
    | ((with_reducible refine allocT 24 (o := ⟨some 3, _, _, _, _, _⟩) ?_ ?_ Try.zr24 ?_); rfl; rfl; intro w4 b4 hv4 hn4)
    | ((with_reducible refine storeT 24 (v' := P) (o := ⟨none, _, _, _, _, _⟩) ?_ (.tmp 3) (.tmp 20) ?_ ?_ ?_ hv4 Try.sz24 ?_); rfl; rfl; rfl; rfl; intro w5 hv5 ho5))
  have HB := hide (Only.below (below_next (below_next hB.out hb3.out) hn4.bl) ho5.out (Nat.le_trans (Nat.le_trans hB.out.size hb3.out.size) hn4.lo))
  have hF5 := hide (((hF.out.next hb3.out).next hn4.bl).only ho5.out (Nat.ne_of_lt (Nat.lt_of_lt_of_le (hF.out.next hb3.out).vb.lt hn4.lo)) (Nat.ne_of_lt (Nat.lt_of_lt_of_le (hF.out.next hb3.out).fb.vb.lt hn4.lo)))
  have hv5 := hide hv5
  have r0 := fix_cell (i := 0) hv5.out (by decide)
  rw [show dg P 0 = 4332616871279656263 by rw [hP.out]; rfl] at r0
  have h00 : eqv 0 0 = true := by rfl
  have h66 : ∀ W, (binOp .eql 24 (vE 6) (.agg #[.int .u64 6, .int .u64 0, .int .u64 0, .int .u64 0, .int .u64 0, .int .u64 0])).run Try.prog W = .ok (.bool true) W := fun W => bin_eqlN 6 6 W
  have g66 : ∀ (a b : Operand) W, (eqGuard .eql 24 a b (vE 6) (.agg #[.int .u64 6, .int .u64 0, .int .u64 0, .int .u64 0, .int .u64 0, .int .u64 0])).run Try.prog W = .ok () W := fun a b W => grdN .eql a b 6 6 W
  have hPl : P < B64 ^ 6 := hF5.out.lt6
  have hPl := hide hPl
  have hred := hide (freduce_c b bm P n 32 P w5 hF5.out hPl.out)
  rw [Nat.mod_self] at hred
  have hsub := hide (fun W h => fsub_c b bm P n 32 1 1 W h (by decide +kernel) (by decide +kernel))
  rw [show (1 + ng P 1) % P = 0 by rw [hP.out]; rfl] at hsub
  have hmul := hide (fun W h => fmul_c b bm P n 32 2 3 W h (by decide +kernel) (by decide +kernel))
  rw [show 2 * 3 % P = 6 by rw [hP.out]] at hmul
  clear hv4 hn4 ho5 hb3 hB hF Hnew2
  go_wp2_with (first
    | ((with_reducible refine wpList_of_wp (o := ⟨some 26, _, _, _, _, _⟩) ?_ (wpE 24 (.tmp 3) rfl hv5.out ?_ Try.underlying24 rfl Try.sz24 ?_)); rfl; rfl)
    | (go_at_call 18; refine hred.out.mono ?_; rintro e w6 ⟨rfl, hb6⟩; replace hb6 := hide hb6)
    | (go_at_call 34; refine (hsub.out w6 (hF5.out.next hb6.out)).mono ?_; rintro e w7 ⟨rfl, hb7⟩; replace hb7 := hide hb7)
    | (go_at_call 19; refine (hmul.out w7 ((hF5.out.next hb6.out).next hb7.out)).mono ?_; rintro e w8 ⟨rfl, hb8⟩; replace hb8 := hide hb8))
  go_ret
  exact ⟨rfl, below_next (below_next (below_next HB.out hb6.out) hb7.out) hb8.out⟩
end Go.Proofs.Ytincemkjdgbnnaa
