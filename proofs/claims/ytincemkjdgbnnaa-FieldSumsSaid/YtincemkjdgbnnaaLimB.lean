/- Walks: package limb, reading and writing of bytes. -/
import Derived.Test.YtincemkjdgbnnaaLimA
import Derived.StillTailTactics
set_option linter.unusedVariables false
set_option linter.unusedSimpArgs false
namespace Go.Proofs.Ytincemkjdgbnnaa
open Go.RowKit Lm

/-- the number whose bytes these are, the highest first. -/
def be (l : List Nat) : Nat := val 256 l.reverse

theorem be_snoc (l : List Nat) (x : Nat) : be (l ++ [x]) = x + 256 * be l := by simp [be]
theorem be_take_succ (l : List Nat) (i : Nat) (h : i < l.length) : be (l.take (i + 1)) = nth l i + 256 * be (l.take i) := by
  rw [List.take_succ_eq_append_getElem h, be_snoc, nth_of_lt h]

theorem or_add {x y m : Nat} (hx : x % 2 ^ m = 0) (hy : y < 2 ^ m) : x ||| y = x + y := by
  have h : x = 2 ^ m * (x / 2 ^ m) := by have := Nat.div_add_mod x (2 ^ m); omega
  rw [h, Nat.two_pow_add_eq_or_of_lt hy]

/-- one byte is laid into its limb. -/
theorem from_step {N m i V c : Nat} (hi : i < m) (hN : N = (m + 7) / 8) (hV : V = 256 ^ (m - i) * (V / 256 ^ (m - i))) (hVm : V < 256 ^ m) (hc : c < 256) :
    (fix B64 N V).set ((m - 1 - i) / 8) (nth (fix B64 N V) ((m - 1 - i) / 8) ||| c * 2 ^ ((m - 1 - i) % 8 * 8)) = fix B64 N (V + c * 256 ^ (m - 1 - i)) ∧
      c * 2 ^ ((m - 1 - i) % 8 * 8) < B64 := by
  generalize hat : m - 1 - i = a at *
  have hmi : m - i = a + 1 := by omega
  rw [hmi] at hV
  generalize V / 256 ^ (a + 1) = q at hV
  have hj : a / 8 < N := by omega
  have hr : a % 8 < 8 := Nat.mod_lt _ (by omega)
  have ha := Nat.div_add_mod a 8
  generalize a / 8 = j at *
  generalize a % 8 = r at *
  have e256 : ∀ k, 256 ^ k = 2 ^ (8 * k) := fun k => by rw [Nat.pow_mul]
  have eB : ∀ k, B64 ^ k = 2 ^ (64 * k) := fun k => by rw [Nat.pow_mul]; rfl
  have hlt : c * 2 ^ (r * 8) < 2 ^ (r * 8 + 8) := by
    rw [Nat.pow_add, Nat.mul_comm]; exact Nat.mul_lt_mul_of_pos_left (by omega) (Nat.pow_pos (by omega))
  have hle : 2 ^ (r * 8 + 8) ≤ B64 := Nat.pow_le_pow_right (by omega) (show r * 8 + 8 ≤ 64 by omega)
  have hold : nth (fix B64 N V) j = V / B64 ^ j % B64 := by
    rw [nth_of_lt (by rw [fix_length]; exact hj), fix_getElem]
  have hVj : V / B64 ^ j = 2 ^ (r * 8 + 8) * q := by
    rw [hV, e256, eB, show 8 * (a + 1) = 64 * j + (r * 8 + 8) by omega, Nat.pow_add, Nat.mul_assoc, Nat.mul_div_cancel_left _ (Nat.pow_pos (by omega))]
  have hmod : nth (fix B64 N V) j % 2 ^ (r * 8 + 8) = 0 := by
    rw [hold, hVj]
    have : (2 ^ (r * 8 + 8)) ∣ B64 := Nat.pow_dvd_pow 2 (show r * 8 + 8 ≤ 64 by omega)
    rw [Nat.mod_mod_of_dvd _ this, Nat.mul_mod_right]
  have hor := or_add hmod hlt
  refine ⟨?_, by omega⟩
  rw [hor]
  have holdB : nth (fix B64 N V) j < B64 := by rw [hold]; exact Nat.mod_lt _ (by decide)
  have hnew : nth (fix B64 N V) j + c * 2 ^ (r * 8) < B64 := by
    generalize nth (fix B64 N V) j = x at *
    have h1 := Nat.div_add_mod x (2 ^ (r * 8 + 8))
    rw [hmod] at h1
    obtain ⟨t, ht⟩ : (2 ^ (r * 8 + 8)) ∣ B64 := Nat.pow_dvd_pow 2 (show r * 8 + 8 ≤ 64 by omega)
    rw [ht] at holdB ⊢
    rw [← h1] at holdB ⊢
    have := Nat.lt_of_mul_lt_mul_left (show 2 ^ (r * 8 + 8) * (x / 2 ^ (r * 8 + 8)) < 2 ^ (r * 8 + 8) * t by omega)
    have h3 : 2 ^ (r * 8 + 8) * (x / 2 ^ (r * 8 + 8)) + 2 ^ (r * 8 + 8) ≤ 2 ^ (r * 8 + 8) * t := by rw [← Nat.mul_succ]; exact Nat.mul_le_mul_left _ this
    omega
  have hadd : V + c * 256 ^ a = V + B64 ^ j * (c * 2 ^ (r * 8)) := by
    rw [e256, eB, show 8 * a = 64 * j + r * 8 by omega, Nat.pow_add, Nat.mul_left_comm]
  have hVN : V + c * 256 ^ a < B64 ^ N := by
    have h1 : 256 ^ m ≤ B64 ^ N := by rw [e256, eB]; exact Nat.pow_le_pow_right (by omega) (by omega)
    have h2 : c * 256 ^ a < 256 ^ (a + 1) := by rw [Nat.pow_succ, Nat.mul_comm]; exact Nat.mul_lt_mul_of_pos_left (by omega) (Nat.pow_pos (by omega))
    have h3 : 256 ^ (a + 1) ∣ 256 ^ m := Nat.pow_dvd_pow 256 (by omega)
    obtain ⟨t, ht⟩ := h3
    rw [ht] at hVm h1
    rw [hV] at hVm ⊢
    have := Nat.lt_of_mul_lt_mul_left hVm
    have : 256 ^ (a + 1) * q + 256 ^ (a + 1) ≤ 256 ^ (a + 1) * t := by rw [← Nat.mul_succ]; exact Nat.mul_le_mul_left _ this
    omega
  refine val_inj (Ok.set (fix_ok (by decide) _ _) hnew) (fix_ok (by decide) _ _) (by rw [List.length_set, fix_length, fix_length]) ?_
  have hs := val_set (B := B64) (fix B64 N V) j (nth (fix B64 N V) j + c * 2 ^ (r * 8)) (by rw [fix_length]; exact hj)
  rw [← nth_of_lt (by rw [fix_length]; exact hj)] at hs
  rw [val_fix_of_lt (show V < B64 ^ N by omega), Nat.mul_add] at hs
  rw [val_fix_of_lt hVN, hadd]
  omega

theorem or_u64 {x y : Nat} (hx : x < B64) (hy : y < B64) : bits .or .u64 (x : Int) (y : Int) = ((x ||| y : Nat) : Int) := bits_or_u64_nat x y hx hy

theorem or_shl {x y k : Nat} (hy : y < B64) (h : x * 2 ^ k < B64) : bits .or .u64 (y : Int) (IntKind.u64.wrap ((x : Int) * 2 ^ k)) = ((y ||| x * 2 ^ k : Nat) : Int) := by
  have e : ((x : Int) * 2 ^ k) = ((x * 2 ^ k : Nat) : Int) := by simp
  have h2 := h
  rw [B64_eq] at h2
  rw [e, wrap_u _ (by omega) (by omega), or_u64 hy h]

theorem Try.info_u64 : (Try.prog.info? 22).map (fun i => (i.zero, i.size, i.bytes)) = some (some (.int .u64 0), 1, 8) := by kernel_rfl
theorem Try.info_u8 : (Try.prog.info? 5).map (fun i => (i.zero, i.size, i.bytes)) = some (some (.int .u8 0), 1, 1) := by kernel_rfl
theorem Try.info_u32 : (Try.prog.info? 95).map (fun i => (i.zero, i.size, i.bytes)) = some (some (.int .u32 0), 1, 4) := by kernel_rfl

theorem mk_row {P : Program} {t e : TypeId} {k : IntKind} {by_ : Nat} (ht : P.underlying t = some (.slice e)) (hinfo : (P.info? e).map (fun i => (i.zero, i.size, i.bytes)) = some (some (.int k 0), 1, by_)) (hby : by_ ≤ 8)
    (x : Int) (n : Nat) (hx : x = (n : Int)) (hn : n ≤ lim) (W : World) :
    (Instr.makeSlice t (.int .i64 x) (.int .i64 x)).run P W = .ok (.slice (some ⟨W.heap.size, 0, none⟩) n n) (W.alloc (nblk k e (List.replicate n 0))) := by
  subst hx
  unfold lim at hn
  obtain ⟨i, hi, hz, hs, hb⟩ := info_parts hinfo
  have hb2 : (i.bytes : Int) * (n : Int) ≤ 281474976710656 := by
    have : i.bytes * n ≤ 8 * 1099511627776 := Nat.mul_le_mul (by omega) hn
    omega
  have hr := run_make (P := P) W t e i (.int k 0) ht hi hz .i64 .i64 (n : Int) (n : Int) (by omega) (by omega) hb2 (by omega)
  rw [hr, hs]
  simp only [nblk, madeCells, Value.cells, Int.toNat_natCast, Nat.mul_one]
  congr 3
  apply Array.ext
  · simp
  · intro j h1 h2; simp [Nat.mod_one]

theorem mk_u64 (x : Int) (n : Nat) (hx : x = (n : Int)) (hn : n ≤ lim) (W : World) :
    (Instr.makeSlice 104 (.int .i64 x) (.int .i64 x)).run Try.prog W = .ok (.slice (some ⟨W.heap.size, 0, none⟩) n n) (W.alloc (nblk .u64 22 (List.replicate n 0))) :=
  mk_row Try.underlying104 Try.info_u64 (by omega) x n hx hn W

set_option maxRecDepth 100000 in
set_option maxHeartbeats 800000 in
theorem from_any (A : Option Addr) (c : Nat) (l : List Nat) (w : World) (hr : Rd w .u8 A l) (hc : l.length ≤ c) (hlim : l.length ≤ lim) (hok : Ok 256 l) :
    Calls Try.prog 66 #[.slice A l.length c] w (RetSl w .u64 (digs B64 (be l))) := by
  have hlim2 := hlim
  unfold lim at hlim2
  obtain ⟨N, hN⟩ : ∃ N, N = (l.length + 7) / 8 := ⟨_, rfl⟩
  generalize hm : l.length = m at *
  have Hm := hide hm; clear hm
  have HN := hide hN
  have hmk := mk_u64 (((m : Int) + 7) / 8) N (by rw [hN]; omega) (by unfold lim; omega)
  clear hN
  go_enter Try.func66, Try.ntmps66
  go_wp2_with fail
  go_loopw [4, 5, 6, 14] (fun s4 s5 s6 k wr => ∃ i : Nat, i ≤ m ∧ k = .int .i64 i ∧ Only (w.alloc (nblk .u64 22 (List.replicate N 0))) wr w.heap.size ∧
    Blk wr w.heap.size 22 .u64 (fix B64 N (be (l.take i) * 256 ^ (m - i)))) (fun _ _ _ k _ => m - (intOf k).toNat)
  case atStart =>
    refine ⟨0, Nat.zero_le _, rfl, Only.refl _ _, ?_⟩
    have : fix B64 N (be (l.take 0) * 256 ^ (m - 0)) = List.replicate N 0 := by
      refine val_inj (fix_ok (by decide) _ _) (Ok.replicate (by decide) _) (by rw [fix_length, List.length_replicate]) ?_
      rw [val_replicate, val_fix]; simp [be]
    rw [this]
    exact Blk.new _ _ _ _
  case round =>
    obtain ⟨i, hi, rfl, hon, hblk⟩ := hrel
    by_cases hlt : i < m
    · obtain ⟨b, off, rfl, hrow⟩ := hr (by rw [Hm.out]; omega)
      have hbw := hrow.lt (by rw [Hm.out]; omega)
      have hrow2 : RowN wr .u8 b off l := hon.row (hrow.below ((Below.refl _ _).alloc (Nat.le_refl _) _)) (by omega)
      have hcell := hrow2 i (by rw [Hm.out]; exact hlt)
      have hx : nth l i < 256 := Ok.getD (by decide) hok _
      obtain ⟨a, ha⟩ : ∃ a, a = m - 1 - i := ⟨_, rfl⟩
      have ha' : (m : Int) - 1 - (i : Int) = (a : Int) := by omega
      have hab : a < m := by omega
      have hjN : a / 8 < N := by rw [HN.out]; omega
      have hV : be (l.take i) * 256 ^ (m - i) < 256 ^ m := by
        have h1 := val_lt (B := 256) (l := (l.take i).reverse) (fun y hy => hok.take i y (List.mem_reverse.1 hy))
        rw [List.length_reverse, List.length_take, Hm.out, Nat.min_eq_left hi] at h1
        have : 256 ^ m = 256 ^ i * 256 ^ (m - i) := by rw [← Nat.pow_add]; congr 1; omega
        rw [this]
        exact Nat.mul_lt_mul_of_pos_right h1 (Nat.pow_pos (by omega))
      have hst := from_step (N := N) (V := be (l.take i) * 256 ^ (m - i)) (c := nth l i) hlt HN.out (by
        rw [Nat.mul_div_cancel _ (Nat.pow_pos (by omega)), Nat.mul_comm]) hV hx
      have hV2 : be (l.take i) * 256 ^ (m - i) + nth l i * 256 ^ (m - 1 - i) = be (l.take (i + 1)) * 256 ^ (m - (i + 1)) := by
        rw [be_take_succ l i (by rw [Hm.out]; exact hlt), show m - i = (m - 1 - i) + 1 by omega, show m - (i + 1) = m - 1 - i by omega, Nat.pow_succ, Nat.add_mul]
        simp only [Nat.mul_assoc, Nat.mul_comm, Nat.mul_left_comm, Nat.add_comm]
      rw [hV2, ← ha] at hst
      have hcell2 := hblk.cell (i := a / 8) (by rw [fix_length]; exact hjN)
      have hfr := hblk.frozen (a / 8)
      have hy : nth (fix B64 N (be (l.take i) * 256 ^ (m - i))) (a / 8) < B64 := Ok.getD (by decide) (fix_ok (by decide) _ _) _
      have Hst := hide hst
      have Hblk := hide hblk
      have Hon := hide hon
      clear hrow hrow2 hr hst hblk hon hV hV2 hmk
      generalize fix B64 N (be (l.take i) * 256 ^ (m - i)) = L at *
      generalize nth l i = x at *
      generalize nth L (a / 8) = y at *
      have Ha := hide ha
      clear ha
      go_wp2_with fail
      clear ha'
      have i0 : (0 : Int) ≤ (a : Int) / 8 := by omega
      have i1 : (a : Int) / 8 < (N : Int) := by omega
      have i2 : ((a : Int) / 8).toNat = a / 8 := by omega
      have iw := wrap_in ((a : Int) / 8) (by omega) (by omega)
      have iw2 := wrap_in ((a : Int) % 8) (by omega) (by omega)
      have iw3 := wrap_in ((a : Int) % 8 * 8) (by omega) (by omega)
      go_region
      go_wp2_with fail
      have hE := or_shl hy Hst.out.2
      have hblk2 := Blk.drew (Hblk.out.set_ (a / 8) hE)
      rw [Hst.out.1] at hblk2
      exact ⟨⟨i + 1, by omega, by simp, (Hon.out.set_ _ _).drew, hblk2⟩, by simp [intOf]; omega⟩
    · obtain rfl : i = m := by omega
      have hfull : l.take i = l := List.take_of_length_le (by rw [Hm.out]; exact Nat.le_refl _)
      rw [hfull, Nat.sub_self, Nat.pow_zero, Nat.mul_one] at hblk
      have hbw : Below w.heap.size w wr := Only.below ((Below.refl _ _).alloc (Nat.le_refl _) _) hon (Nat.le_refl _)
      have hv : be l < B64 ^ N := by
        have h1 := val_lt (B := 256) (l := l.reverse) (fun y hy => hok y (List.mem_reverse.1 hy))
        rw [List.length_reverse, Hm.out] at h1
        have h2 : 256 ^ i ≤ B64 ^ N := by
          rw [show B64 = 2 ^ 64 from rfl, show (256 : Nat) = 2 ^ 8 from rfl, ← Nat.pow_mul, ← Nat.pow_mul]
          exact Nat.pow_le_pow_right (by omega) (by rw [HN.out]; omega)
        exact Nat.lt_of_lt_of_le h1 h2
      have htr := trim_any (some ⟨w.heap.size, 0, none⟩) N (fix B64 N (be l)) wr (fun _ => ⟨_, _, rfl, hblk.row0⟩) (by rw [fix_length]; exact Nat.le_refl _) (by rw [fix_length, HN.out]; unfold lim; omega) (fix_ok (by decide) _ _)
      rw [fix_length, val_fix_of_lt hv] at htr
      have Htr := hide htr
      clear htr hblk hon hmk
      go_wp2_with fail
      refine Htr.out.mono ?_
      rintro e w2 ⟨A2, c2, rfl, hc2, hr2, hb2⟩
      go_wp2_with fail
      go_ret
      exact retsl_mk (below_next hbw hb2) rfl hc2 hr2
end Go.Proofs.Ytincemkjdgbnnaa
