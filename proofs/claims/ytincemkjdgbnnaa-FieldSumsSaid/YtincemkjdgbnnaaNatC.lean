/- Walks: the reference's numbers (nat): Shl by less than a digit. -/
import Derived.Test.YtincemkjdgbnnaaNatB
set_option linter.unusedVariables false
set_option linter.unusedSimpArgs false
namespace Go.Proofs.Ytincemkjdgbnnaa
open Go.RowKit Lm

theorem or_u32 {x y : Nat} (hx : x < B32) (hy : y < B32) : bits .or .u32 (x : Int) (y : Int) = ((x ||| y : Nat) : Int) := by
  rw [B32_eq] at hx hy
  have hlt : x ||| y < 2 ^ 32 := Nat.or_lt_two_pow (by omega) (by omega)
  have h1 : (BitVec.ofInt 32 (x : Int)).toNat = x := by rw [BitVec.ofInt_natCast, BitVec.toNat_ofNat, Nat.mod_eq_of_lt (by omega)]
  have h2 : (BitVec.ofInt 32 (y : Int)).toNat = y := by rw [BitVec.ofInt_natCast, BitVec.toNat_ofNat, Nat.mod_eq_of_lt (by omega)]
  show IntKind.u32.wrap ((BitVec.ofInt 32 (x : Int) ||| BitVec.ofInt 32 (y : Int)).toNat : Int) = _
  rw [BitVec.toNat_or, h1, h2, IntKind.wrap_u32]
  omega
theorem nth_fix32 {k n i : Nat} (h : i < k) : nth (fix B32 k n) i = n / B32 ^ i % B32 := by
  rw [nth_of_lt (by rw [fix_length]; exact h), fix_getElem]
theorem shl32_step {N i V x s : Nat} (hi : i < N) (hV : V < B32 ^ i * 2 ^ s) (hx : x < B32) (hs : s < 32) :
    ((fix B32 (N + 1) V).set i (nth (fix B32 (N + 1) V) i ||| x * 2 ^ s % B32)).set (i + 1) (nth ((fix B32 (N + 1) V).set i (nth (fix B32 (N + 1) V) i ||| x * 2 ^ s % B32)) (i + 1) ||| x * 2 ^ s / B32) = fix B32 (N + 1) (V + B32 ^ i * (x * 2 ^ s)) := by
  have h2s : 2 ^ s < B32 := Nat.pow_lt_pow_right (by decide) hs
  have hP := p32_pos i
  have hVi : V / B32 ^ i < 2 ^ s := (Nat.div_lt_iff_lt_mul hP).2 (by rw [Nat.mul_comm]; exact hV)
  have h0 : nth (fix B32 (N + 1) V) i = V / B32 ^ i := by rw [nth_fix32 (by omega), Nat.mod_eq_of_lt (by omega)]
  have h1 : nth (fix B32 (N + 1) V) (i + 1) = 0 := by
    rw [nth_fix32 (by omega), Nat.pow_succ, ← Nat.div_div_eq_div_mul, Nat.div_eq_of_lt (by omega : V / B32 ^ i < B32)]; rfl
  rw [nth_set_ne (by omega), h1, Nat.zero_or, h0]
  obtain ⟨t, ht⟩ : 2 ^ s ∣ B32 := Nat.pow_dvd_pow 2 (by omega : s ≤ 32)
  have hmod : x * 2 ^ s % B32 % 2 ^ s = 0 := by rw [Nat.mod_mod_of_dvd _ ⟨t, ht⟩, Nat.mul_mod_left]
  rw [Nat.or_comm, or_add hmod hVi]
  have hlo : x * 2 ^ s % B32 + V / B32 ^ i < B32 := by
    have h3 := Nat.mod_lt (x * 2 ^ s) B32_pos
    obtain ⟨q, hq⟩ : ∃ q, x * 2 ^ s % B32 = 2 ^ s * q := Nat.dvd_of_mod_eq_zero hmod
    rw [hq] at h3 ⊢
    have h5 : q < t := Nat.lt_of_mul_lt_mul_left (a := 2 ^ s) (by omega)
    have h6 : 2 ^ s * q + 2 ^ s ≤ 2 ^ s * t := by rw [← Nat.mul_succ]; exact Nat.mul_le_mul_left _ h5
    omega
  have hhi : x * 2 ^ s / B32 < B32 := (Nat.div_lt_iff_lt_mul B32_pos).2 (by exact Nat.mul_lt_mul'' hx h2s)
  have hw := Nat.div_add_mod (x * 2 ^ s) B32
  generalize x * 2 ^ s / B32 = hi' at *
  generalize x * 2 ^ s % B32 = lo' at *
  have hVmod := Nat.mod_add_div V (B32 ^ i)
  have hlt : V + B32 ^ i * (x * 2 ^ s) < B32 ^ (N + 1) := by
    have e1 : V + B32 ^ i * (x * 2 ^ s) = V % B32 ^ i + B32 ^ i * (lo' + V / B32 ^ i + B32 * hi') := by
      rw [← hw, Nat.mul_add, Nat.mul_add, Nat.mul_add]; omega
    have e2 : lo' + V / B32 ^ i + B32 * hi' < B32 * B32 := by
      have : B32 * hi' + B32 ≤ B32 * B32 := by rw [← Nat.mul_succ]; exact Nat.mul_le_mul_left _ hhi
      omega
    have e3 : B32 ^ i * (lo' + V / B32 ^ i + B32 * hi') + B32 ^ i ≤ B32 ^ i * (B32 * B32) := by rw [← Nat.mul_succ]; exact Nat.mul_le_mul_left _ e2
    have e4 : B32 ^ i * (B32 * B32) = B32 ^ (i + 2) := by rw [Nat.pow_succ, Nat.pow_succ, Nat.mul_assoc]
    have e5 := Nat.pow_le_pow_right (n := B32) B32_pos (show i + 2 ≤ N + 1 by omega)
    have e6 := Nat.mod_lt V hP
    omega
  refine val_inj (Ok.set (Ok.set (fix_ok B32_pos _ _) hlo) hhi) (fix_ok B32_pos _ _) (by simp [fix_length]) ?_
  have s1 := val_set (B := B32) (fix B32 (N + 1) V) i (lo' + V / B32 ^ i) (by rw [fix_length]; omega)
  rw [← nth_of_lt (by rw [fix_length]; omega), h0] at s1
  have s2 := val_set (B := B32) ((fix B32 (N + 1) V).set i (lo' + V / B32 ^ i)) (i + 1) hi' (by simp [fix_length]; omega)
  rw [← nth_of_lt (by simp [fix_length]; omega), nth_set_ne (by omega), h1] at s2
  rw [val_fix_of_lt (show V < B32 ^ (N + 1) by omega), Nat.mul_add] at s1
  rw [val_fix_of_lt hlt]
  rw [Nat.mul_zero, Nat.add_zero] at s2
  have e7 : B32 ^ i * (x * 2 ^ s) = B32 ^ (i + 1) * hi' + B32 ^ i * lo' := by rw [← hw, Nat.mul_add, Nat.pow_succ, Nat.mul_assoc]
  omega

set_option maxRecDepth 100000 in
set_option maxHeartbeats 1600000 in
theorem nshl_any (A : Option Addr) (c a s : Nat) (w : World) (hs : s < 32) (hr : Rd w .u32 A (digs B32 a)) (hc : (digs B32 a).length ≤ c) (hlim : (digs B32 a).length < lim) :
    Calls Try.prog 138 #[.slice A (digs B32 a).length c, .int .i64 (s : Int)] w (RetSl w .u32 (digs B32 (a * 2 ^ s))) := by
  have HA := hide (val_digs B32_ge a)
  have okL := hide (digs_ok B32_ge a)
  unfold lim at hlim
  generalize digs B32 a = L at *
  generalize hp : L.length = p at *
  have HP := hide hp; clear hp
  have iq : (s : Int) / 32 = 0 := by omega
  have ir : (s : Int) % 32 = (s : Int) := by omega
  have hmk := mk_u32 ((p : Int) + 1) (p + 1) (by omega) (by unfold lim; omega)
  have iw := wrap_in ((p : Int) + 1) (by omega) (by omega)
  go_enter Try.func138, Try.ntmps138
  go_wp2_with fail
  clear hmk iw
  go_loopw [6, 7] (fun k _ wr => ∃ i : Nat, i ≤ p ∧ k = .int .i64 i ∧ Only (w.alloc (nblk .u32 95 (List.replicate (p + 1) 0))) wr w.heap.size ∧
    Blk wr w.heap.size 95 .u32 (fix B32 (p + 1) (val B32 (L.take i) * 2 ^ s))) (fun k _ _ => p - (intOf k).toNat)
  case atStart =>
    refine ⟨0, Nat.zero_le _, rfl, Only.refl _ _, ?_⟩
    have : fix B32 (p + 1) (val B32 (L.take 0) * 2 ^ s) = List.replicate (p + 1) 0 := by
      refine val_inj (fix_ok B32_pos _ _) (Ok.replicate B32_pos _) (by rw [fix_length, List.length_replicate]) ?_
      rw [val_replicate, val_fix]; simp [val]
    rw [this]
    exact Blk.new _ _ _ _
  case round =>
    obtain ⟨i, hi, rfl, hon, hblk⟩ := hrel
    by_cases hlt : i < p
    · obtain ⟨b0, off, rfl, hrow⟩ := hr (by rw [HP.out]; omega)
      have hbw := hrow.lt (by rw [HP.out]; omega)
      have hcell := (hon.row (hrow.below ((Below.refl _ _).alloc (Nat.le_refl _) _)) (by omega)) i (by rw [HP.out]; exact hlt)
      have hx : nth L i < B32 := Ok.getD B32_pos okL.out _
      have hV : val B32 (L.take i) * 2 ^ s < B32 ^ i * 2 ^ s := Nat.mul_lt_mul_of_pos_right (vt_lt okL.out B32_pos i) (Nat.pow_pos (by omega))
      have hst := shl32_step (N := p) hlt hV hx hs
      have hVn : val B32 (L.take i) * 2 ^ s + B32 ^ i * (nth L i * 2 ^ s) = val B32 (L.take (i + 1)) * 2 ^ s := by
        rw [vt_succ', Nat.add_mul, Nat.mul_assoc]
      rw [hVn] at hst
      have hc0 := hblk.cell (i := i) (by rw [fix_length]; omega)
      have hc1 := hblk.cell (i := i + 1) (by rw [fix_length]; omega)
      have hf0 := hblk.frozen i
      have hf1 := hblk.frozen (i + 1)
      have hy0 : nth (fix B32 (p + 1) (val B32 (L.take i) * 2 ^ s)) i < B32 := Ok.getD B32_pos (fix_ok B32_pos _ _) _
      have hy1 : nth (fix B32 (p + 1) (val B32 (L.take i) * 2 ^ s)) (i + 1) < B32 := Ok.getD B32_pos (fix_ok B32_pos _ _) _
      rw [nth_set_ne (by omega)] at hst
      have Hst := hide hst
      have Hblk := hide hblk
      have Hon := hide hon
      have h2s : 2 ^ s ≤ 2147483648 := Nat.pow_le_pow_right (by omega) (show s ≤ 31 by omega)
      have hW : nth L i * 2 ^ s < B64 := by
        have : nth L i * 2 ^ s ≤ nth L i * 2147483648 := Nat.mul_le_mul_left _ h2s
        rw [B32_eq] at hx; rw [B64_eq]; omega
      clear hrow hst hblk hon hV hVn hbw hr
      generalize fix B32 (p + 1) (val B32 (L.take i) * 2 ^ s) = F at *
      generalize nth L i = x at *
      generalize nth F i = y0 at *
      generalize nth F (i + 1) = y1 at *
      obtain ⟨W, hWe⟩ : ∃ W, W = x * 2 ^ s := ⟨_, rfl⟩
      have ew : IntKind.u64.wrap ((x : Int) * 2 ^ s) = (W : Int) := by
        have e : ((x : Int) * 2 ^ s) = ((x * 2 ^ s : Nat) : Int) := by simp
        rw [e, ← hWe]; exact u64_small W (by rw [hWe]; exact hW)
      rw [← hWe] at hW Hst
      replace hWe := hide hWe
      obtain ⟨lo, hlo⟩ : ∃ l, l = W % B32 := ⟨_, rfl⟩
      obtain ⟨hi', hhi⟩ : ∃ l, l = W / B32 := ⟨_, rfl⟩
      have el : (W : Int) % 4294967296 = (lo : Int) := by rw [hlo, B32_eq]; omega
      have eh : (W : Int) / 4294967296 = (hi' : Int) := by rw [hhi, B32_eq]; omega
      rw [← hlo, ← hhi] at Hst
      have hloB : lo < B32 := by rw [hlo]; exact Nat.mod_lt _ B32_pos
      have hhiB : hi' < B32 := by rw [hhi]; exact (Nat.div_lt_iff_lt_mul B32_pos).2 (Nat.lt_of_lt_of_le hW (by decide))
      have eh2 : (hi' : Int) % 4294967296 = (hi' : Int) := by rw [B32_eq] at hhiB; omega
      replace hlo := hide hlo
      replace hhi := hide hhi
      have Ho0 := hide (or_u32 hy0 hloB)
      have Ho1 := hide (or_u32 hy1 hhiB)
      have ex : IntKind.u64.wrap (x : Int) = (x : Int) := wrap_u _ (by omega) (by rw [B32_eq] at hx; omega)
      have i1 := wrap_in ((i : Int) + 1) (by omega) (by omega)
      have i2 : (i : Int) + 1 < (p : Int) + 1 := by omega
      have i3 : ((i : Int) + 1).toNat = i + 1 := by omega
      have i4 : (0 : Int) ≤ (i : Int) + 1 := by omega
      go_wp2_with fail
      have hb2 := (Hblk.out.set_ i Ho0.out).set_ (i + 1) Ho1.out
      rw [Hst.out] at hb2
      exact ⟨⟨i + 1, by omega, by simp, (Hon.out.set_ _ _).set_ _ _, hb2⟩, by simp [intOf]; omega⟩
    · obtain rfl : i = p := by omega
      have hbw : Below w.heap.size w wr := Only.below ((Below.refl _ _).alloc (Nat.le_refl _) _) hon (Nat.le_refl _)
      have hlt : a * 2 ^ s < B32 ^ (i + 1) := by
        have h1 := val_lt okL.out
        rw [HP.out, HA.out] at h1
        have h2s : 2 ^ s < B32 := Nat.pow_lt_pow_right (by decide) hs
        rw [Nat.pow_succ]
        exact Nat.mul_lt_mul'' h1 h2s
      rw [vt_full L (by rw [HP.out]; exact Nat.le_refl _), HA.out] at hblk
      have htr := ntrim_any (some ⟨w.heap.size, 0, none⟩) (i + 1) (fix B32 (i + 1) (a * 2 ^ s)) wr (fun _ => ⟨_, _, rfl, hblk.row0⟩) (by rw [fix_length]; exact Nat.le_refl _) (by rw [fix_length]; unfold lim; omega) (fix_ok B32_pos _ _)
      rw [fix_length, val_fix_of_lt hlt] at htr
      have Htr := hide htr
      have hbw := hide hbw
      clear htr hblk hon hlt
      go_wp2_with fail
      refine Htr.out.mono ?_
      rintro e w2 ⟨A2, c2, rfl, hc2, hr2, hb2⟩
      have hb2 := hide hb2
      go_wp2_with fail
      go_ret
      exact retsl_mk (below_next hbw.out hb2.out) rfl hc2 hr2
end Go.Proofs.Ytincemkjdgbnnaa
