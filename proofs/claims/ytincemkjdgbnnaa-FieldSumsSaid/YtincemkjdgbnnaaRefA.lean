/- Walks: the reference's field (ref06): Hex. -/
import Derived.Test.YtincemkjdgbnnaaNatC
set_option linter.unusedVariables false
set_option linter.unusedSimpArgs false
namespace Go.Proofs.Ytincemkjdgbnnaa
open Go.RowKit Lm

/-- the number that the first i digits are. -/
def hv (s : ByteArray) (i : Nat) : Nat := val 16 (((s.data.toList.map fun c => hexd c.toNat).take i).reverse)
theorem hv_zero (s : ByteArray) : hv s 0 = 0 := by simp [hv, val]
theorem hv_full (s : ByteArray) {i : Nat} (h : s.size ≤ i) : hv s i = val 16 (sdig s) := by
  unfold hv sdig
  rw [List.take_of_length_le (by simpa using h)]
theorem hv_succ (s : ByteArray) {i : Nat} (h : i < s.size) : hv s (i + 1) = hv s i * 2 ^ 4 + hexd (s[i]'h).toNat := by
  unfold hv
  have hl : i < (s.data.toList.map fun c => hexd c.toNat).length := by simpa using h
  have e : (s.data.toList.map fun c => hexd c.toNat)[i] = hexd (s[i]'h).toNat := by simp; rfl
  rw [List.take_succ_eq_append_getElem hl, List.reverse_append, List.reverse_singleton, List.singleton_append, e]
  simp only [val]
  omega
theorem hv_lt {s : ByteArray} (hx : ∀ (i : Nat) (h : i < s.size), isHex (s[i]'h).toNat) (i : Nat) : hv s i < 16 ^ i := by
  have hok : Ok 16 ((s.data.toList.map fun c => hexd c.toNat).take i).reverse := fun x h => by
    have := sdig_ok hx x
    refine this ?_
    unfold sdig
    rw [List.mem_reverse] at h ⊢
    exact List.mem_of_mem_take h
  have h1 := val_lt hok
  rw [List.length_reverse, List.length_take] at h1
  exact Nat.lt_of_lt_of_le h1 (Nat.pow_le_pow_right (by omega) (by omega))
theorem hv_short {s : ByteArray} (hx : ∀ (i : Nat) (h : i < s.size), isHex (s[i]'h).toNat) (i : Nat) : (digs B32 (hv s i)).length ≤ i :=
  digs_length_le B32_ge (Nat.lt_of_lt_of_le (hv_lt hx i) (Nat.pow_le_pow_left (by decide) i))

set_option maxRecDepth 100000 in
set_option maxHeartbeats 1600000 in
theorem rhex_any (s : ByteArray) (w : World) (m : Nat) (hsz : s.size = m) (hm : m ≤ 1000) (hx : ∀ (i : Nat) (h : i < s.size), isHex (s[i]'h).toNat) :
    Calls Try.prog 108 #[.string s] w (RetSl w .u32 (digs B32 (val 16 (sdig s)))) := by
  have Hx := hide hx
  have Hsh := hide (hv_short hx)
  clear hx
  have Hsz := hide hsz
  go_enter Try.func108, Try.ntmps108
  go_wp2_with fail
  go_loopw [3, 4, 5] (fun n k _ wr => ∃ i : Nat, i ≤ m ∧ k = .int .i64 i ∧ (∃ A c, n = .slice A (digs B32 (hv s i)).length c ∧ (digs B32 (hv s i)).length ≤ c ∧ Rd wr .u32 A (digs B32 (hv s i))) ∧ Below w.heap.size w wr) (fun _ k _ _ => m - (intOf k).toNat)
  case atStart =>
    exact ⟨0, Nat.zero_le _, rfl, ⟨none, 0, by rw [hv_zero, digs_zero]; rfl, by rw [hv_zero, digs_zero]; exact Nat.le_refl _, by rw [hv_zero, digs_zero]; exact Rd.nil _ _ _⟩, Below.refl _ _⟩
  case round =>
    obtain ⟨i, hi, rfl, ⟨A, c, rfl, hc, hrd⟩, hbw⟩ := hrel
    by_cases hlt : i < m
    · have hls : i < s.size := by rw [Hsz.out]; exact hlt
      have hh := Hx.out i hls
      have hsu := hide (hv_succ s hls)
      have hidx : ∀ W, (Instr.index 9 (.string s) (.int .i64 (i : Int))).run Try.prog W = .ok (.int .u8 ((s[i]'hls).toNat : Int)) W := fun W => by
        rw [run_index_string _ _ _ _ _ Try.underlying9]
        rw [dif_pos (by omega)]
        simp
      have hl1 := Hsh.out i
      obtain ⟨x, hxe⟩ : ∃ x, x = (s[i]'hls).toNat := ⟨_, rfl⟩
      rw [← hxe] at hidx hh hsu
      have hd16 := hide (hexd_lt hh)
      have Hshl := hide (nshl_any A c (hv s i) 4 wr (by omega) hrd hc (by unfold lim; omega))
      have hl2 := hide (show (digs B32 (hv s i * 2 ^ 4)).length < lim by
        have h1 : hv s i * 2 ^ 4 < 16 ^ (i + 1) := by rw [Nat.pow_succ]; exact Nat.mul_lt_mul_of_pos_right (hv_lt Hx.out i) (by omega)
        have h2 := digs_length_le B32_ge (Nat.lt_of_lt_of_le h1 (Nat.pow_le_pow_left (by decide : 16 ≤ B32) (i + 1)))
        unfold lim; omega)
      replace hxe := hide hxe
      have hbw := hide hbw
      replace hh := hide hh
      have hl3 := hide (show (digs B32 (hexd x)).length < lim by
        have := digs_length_le B32_ge (k := 1) (show hexd x < B32 ^ 1 by rw [Nat.pow_one]; exact Nat.lt_trans hd16.out (by decide))
        unfold lim; omega)
      by_cases h97 : 97 ≤ x
      · have h97i : (97 : Int) ≤ (x : Int) := by omega
        have e6 : ((x : Int) - 97) % 256 + 10 = (hexd x : Int) := by
          have := hh.out; unfold isHex at this; unfold hexd; rw [if_pos h97]; omega
        go_wp2_with (first
          | (go_at_call 138; refine Hshl.out.mono ?_; rintro e w1 ⟨A1, c1, rfl, hc1, hr1, hb1⟩; replace hb1 := hide hb1; replace hr1 := hide hr1; replace hc1 := hide hc1)
          | (go_at_call 29; refine (nof_any (hexd x) w1 (Nat.lt_trans hd16.out (by decide))).mono ?_; rintro e w2 ⟨A2, c2, rfl, hc2, hr2, hb2⟩; replace hb2 := hide hb2; replace hr2 := hide hr2; replace hc2 := hide hc2)
          | (go_at_call 15; refine (nadd_any A1 A2 c1 c2 (hv s i * 2 ^ 4) (hexd x) w2 (hr1.out.below hb2.out) hc1.out hl2.out hr2.out hc2.out hl3.out).mono ?_; rintro e w3 ⟨A3, c3, rfl, hc3, hr3, hb3⟩; replace hb3 := hide hb3; replace hr3 := hide hr3; replace hc3 := hide hc3))
        refine ⟨⟨i + 1, by omega, by simp, ⟨A3, c3, by rw [hsu.out], by rw [hsu.out]; exact hc3.out, by rw [hsu.out]; exact hr3.out⟩, below_next (below_next (below_next hbw.out hb1.out) hb2.out) hb3.out⟩, by simp [intOf]; omega⟩
      · have h97i : ¬ (97 : Int) ≤ (x : Int) := by omega
        have e6 : ((x : Int) - 48) % 256 = (hexd x : Int) := by
          have := hh.out; unfold isHex at this; unfold hexd; rw [if_neg h97]; omega
        go_wp2_with (first
          | (go_at_call 138; refine Hshl.out.mono ?_; rintro e w1 ⟨A1, c1, rfl, hc1, hr1, hb1⟩; replace hb1 := hide hb1; replace hr1 := hide hr1; replace hc1 := hide hc1)
          | (go_at_call 29; refine (nof_any (hexd x) w1 (Nat.lt_trans hd16.out (by decide))).mono ?_; rintro e w2 ⟨A2, c2, rfl, hc2, hr2, hb2⟩; replace hb2 := hide hb2; replace hr2 := hide hr2; replace hc2 := hide hc2)
          | (go_at_call 15; refine (nadd_any A1 A2 c1 c2 (hv s i * 2 ^ 4) (hexd x) w2 (hr1.out.below hb2.out) hc1.out hl2.out hr2.out hc2.out hl3.out).mono ?_; rintro e w3 ⟨A3, c3, rfl, hc3, hr3, hb3⟩; replace hb3 := hide hb3; replace hr3 := hide hr3; replace hc3 := hide hc3))
        refine ⟨⟨i + 1, by omega, by simp, ⟨A3, c3, by rw [hsu.out], by rw [hsu.out]; exact hc3.out, by rw [hsu.out]; exact hr3.out⟩, below_next (below_next (below_next hbw.out hb1.out) hb2.out) hb3.out⟩, by simp [intOf]; omega⟩
    · obtain rfl : i = m := by omega
      have hf := hide (hv_full s (i := i) (by rw [hsz]; exact Nat.le_refl _))
      rw [hf.out] at hc hrd ⊢
      replace hc := hide hc
      replace hrd := hide hrd
      replace hbw := hide hbw
      go_wp2_with fail
      go_ret
      exact retsl_mk hbw.out rfl hc.out hrd.out
end Go.Proofs.Ytincemkjdgbnnaa
