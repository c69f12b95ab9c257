/- Walks: package limb, the functions that only look. Walks: package limb, reading and writing of bytes. Walks: package limb, sums and differences. Walks: package limb, shifting. -/
import Derived.Test.YtincemkjdgbnnaaMem
import Derived.Test.YtincemkjdgbnnaaLm
import Derived.Test.YtincemkjdgbnnaaShelf
import Derived.StillTailTactics
import Derived.Test.YtincemkjdgbnnaaLc
set_option linter.unusedVariables false
set_option linter.unusedSimpArgs false
namespace Go.Proofs.Ytincemkjdgbnnaa
open Go.RowKit Lm

theorem take_trim {l : List Nat} (hok : Lm.Ok B64 l) {n : Nat} (hn : n ≤ l.length) (hz : ∀ i, n ≤ i → i < l.length → nth l i = 0)
    (hl : 0 < n → nth l (n - 1) ≠ 0) : l.take n = Lm.digs B64 (Lm.val B64 l) :=
  Lm.take_eq_digs B64_ge hok hn (fun i hi h => by rw [← nth_of_lt hi]; exact hz i h hi) (fun h0 => by rw [← nth_of_lt]; exact hl h0)

set_option maxHeartbeats 400000 in
theorem trim_any (A : Option Addr) (c : Nat) (l : List Nat) (w : World) (hr : Rd w .u64 A l) (hc : l.length ≤ c) (hlim : l.length ≤ lim) (hok : Lm.Ok B64 l) :
    Calls Try.prog 113 #[.slice A l.length c] w (RetSl w .u64 (Lm.digs B64 (Lm.val B64 l))) := by
  unfold lim at hlim
  generalize hlen : l.length = len at *
  have hlen := hide hlen
  go_enter Try.func113, Try.ntmps113
  go_wp2
  go_loop [3] (fun s => ∃ n : Nat, n ≤ len ∧ s = .int .i64 n ∧ Hid (∀ i, n ≤ i → i < len → nth l i = 0)) (fun s => (intOf s).toNat)
  case atStart => exact ⟨len, Nat.le_refl _, rfl, fun i h1 h2 => by omega⟩
  case round =>
    obtain ⟨n, hn, rfl, hz⟩ := hrel
    by_cases h0 : 0 < n
    · obtain ⟨b, off, rfl, hrow⟩ := hr (by rw [hlen.out]; omega)
      have hcell := hrow (n - 1) (by rw [hlen.out]; omega)
      clear hrow
      by_cases hz0 : nth l (n - 1) = 0
      · have hd : ((nth l (n - 1) : Int) == 0) = true := by simp [hz0]
        go_wp2_with fail
        exact ⟨⟨n - 1, by omega, by rw [show ((n - 1 : Nat) : Int) = (n : Int) - 1 from by omega], fun i h1 h2 => by
          rcases Nat.lt_or_ge i n with h3 | h3
          · rw [show i = n - 1 from by omega]; exact hz0
          · exact hz.out i h3 h2⟩, by simp [intOf]; omega⟩
      · have hd : ((nth l (n - 1) : Int) == 0) = false := by rw [beq_eq_false_iff_ne]; omega
        have hfin := hide (take_trim hok (n := n) (by rw [hlen.out]; omega) (fun i h1 h2 => hz.out i h1 (by rw [← hlen.out]; exact h2)) (fun _ => hz0))
        go_wp2_with fail
        go_ret
        exact retsl_mk (Below.refl _ _) (by rw [← hfin.out, List.length_take, hlen.out]; omega) (Nat.le_refl _) (by rw [← hfin.out]; exact hr.take n)
    · obtain rfl : n = 0 := by omega
      have hfin := hide (take_trim hok (n := 0) (by omega) (fun i h1 h2 => hz.out i h1 (by rw [← hlen.out]; exact h2)) (fun h => absurd h h0))
      go_wp2_with fail
      go_ret
      exact retsl_mk (Below.refl _ _) (by rw [← hfin.out]; simp) (Nat.le_refl _) (by rw [← hfin.out]; exact Rd.nil _ _ _)

theorem bitLenAux_blen : ∀ (f x : Nat), x < 2 ^ f → Lib.bitLenAux f x = blen x := by
  intro f
  induction f with
  | zero => intro x h; have : x = 0 := by simpa using h
            subst this; rfl
  | succ f ih =>
    intro x h
    unfold Lib.bitLenAux
    split
    · rename_i h0; subst h0; rfl
    · rename_i h0
      rw [Nat.pow_succ] at h
      rw [ih _ (by omega), blen_half h0]

theorem bitLen_blen (x : Nat) (h : x < B64) : Lib.bitLen x = blen x := bitLenAux_blen 64 x h

set_option maxHeartbeats 400000 in
theorem len64_any (x : Nat) (w : World) (h : x < B64) : Calls Try.prog 139 #[.int .u64 x] w fun e w' => e = .returned (.int .i64 (blen x : Int)) ∧ w' = w := by
  have h2 := h
  rw [B64_eq] at h2
  refine (Try.bits_Len64 x w (by omega) (by omega)).mono fun e w' he => ?_
  rw [Int.toNat_natCast, bitLen_blen x h] at he
  exact he

theorem lz64_any (x : Nat) (w : World) (h : x < B64) : Calls Try.prog 115 #[.int .u64 x] w fun e w' => e = .returned (.int .i64 (64 - (blen x : Int))) ∧ w' = w := by
  have h2 := h
  rw [B64_eq] at h2
  refine (Try.bits_LeadingZeros64 x w (by omega) (by omega)).mono fun e w' he => ?_
  rw [Int.toNat_natCast, bitLen_blen x h] at he
  exact he

set_option maxHeartbeats 400000 in
theorem bits_any (A : Option Addr) (c : Nat) (l : List Nat) (w : World) (hr : Rd w .u64 A l) (hc : l.length ≤ c) (hlim : l.length ≤ lim) (hok : Lm.Ok B64 l) :
    Calls Try.prog 110 #[.slice A l.length c] w fun e w' => e = .returned (.int .i64 (blen (val B64 l) : Int)) ∧ Below w.heap.size w w' := by
  go_enter Try.func110, Try.ntmps110
  go_wp2_with fail
  refine (trim_any A c l w hr hc hlim hok).mono ?_
  rintro e w1 ⟨A1, c1, rfl, hc1, hr1, hb1⟩
  obtain ⟨v, hv⟩ : ∃ v, v = val B64 l := ⟨_, rfl⟩
  have HV := hide hv
  rw [← hv] at hc1 hr1 ⊢
  clear hv
  have HL : (digs B64 v).length ≤ l.length := by rw [HV.out]; exact digs_length_le B64_ge (val_lt hok)
  unfold lim at hlim
  have HZ := hide (digs_eq_nil B64_ge (n := v))
  have HK := digs_ok B64_ge v
  have HT := fun m => blen_digs (k := 64) (by omega) (v := v) (m := m)
  change ∀ m, (digs B64 v).length = m + 1 → blen v = 64 * m + blen (nth (digs B64 v) m) at HT
  generalize digs B64 v = D at *
  generalize hm : D.length = m at *
  have Hm := hide hm; clear hm
  rcases Nat.eq_zero_or_pos m with h0 | h0
  · subst h0
    have h3 : v = 0 := HZ.out.1 (List.length_eq_zero_iff.1 Hm.out)
    have hfin := hide (show blen (val B64 l) = 0 by rw [← HV.out, h3]; rfl)
    clear h3
    go_wp2_with fail
    go_ret
    exact ⟨ret_int (by rw [hfin.out]; rfl), hb1⟩
  · obtain ⟨b, off, rfl, hrow⟩ := hr1 (by rw [Hm.out]; omega)
    have ht := HT (m - 1) (by omega)
    have hlt : nth D (m - 1) < B64 := Ok.getD (by decide) HK _
    have hcell := hrow (m - 1) (by rw [Hm.out]; omega)
    clear hrow HT
    have hne : ((m : Int) == 0) = false := by rw [beq_eq_false_iff_ne]; omega
    generalize nth D (m - 1) = x at *
    have hq := blen_le_of_lt hlt
    generalize hqq : blen x = q at *
    have hfin := hide (show blen (val B64 l) = 64 * (m - 1) + q by rw [← HV.out, ht])
    have hqq := hide hqq
    clear ht
    go_wp2_with fail
    refine (len64_any x _ hlt).mono ?_
    rintro e w2 ⟨rfl, rfl⟩
    rw [hqq.out]
    go_wp2_with fail
    go_ret
    exact ⟨ret_int (by rw [hfin.out]; omega), hb1⟩

def ordI (x y : Nat) : Int := if x < y then -1 else 1
set_option maxHeartbeats 400000 in
theorem order_any (x y : Nat) (w : World) : Calls Try.prog 114 #[.int .u64 x, .int .u64 y] w fun e w' => e = .returned (.int .i64 (ordI x y)) ∧ w' = w := by
  go_enter Try.func114, Try.ntmps114
  by_cases h : x < y
  all_goals
    go_wp2
    go_ret
    exact ⟨ret_int (by simp [ordI, h]), rfl⟩


theorem bits_and_one (x : Nat) (h : x < B64) : bits .and .u64 (x : Int) 1 = ((x % 2 : Nat) : Int) := by
  rw [B64_eq] at h
  have := bits_and_u64_nat x 1 h (by omega)
  rw [show ((1 : Nat) : Int) = 1 from rfl] at this
  rw [this, Nat.and_one_is_mod]

set_option maxHeartbeats 400000 in
theorem bit_any (A : Option Addr) (c : Nat) (l : List Nat) (i : Nat) (w : World) (hr : Rd w .u64 A l) (hc : l.length ≤ c) (hlim : l.length ≤ lim) (hok : Lm.Ok B64 l) (hi : i ≤ lim) :
    Calls Try.prog 111 #[.slice A l.length c, .int .i64 (i : Int)] w fun e w' => e = .returned (.int .u64 ((val B64 l / 2 ^ i % 2 : Nat) : Int)) ∧ Below w.heap.size w w' := by
  unfold lim at *
  go_enter Try.func111, Try.ntmps111
  have hn : decide ((i : Int) < 0) = false := by simp
  by_cases h : i / 64 < l.length
  · obtain ⟨b, off, rfl, hrow⟩ := hr (by omega)
    have hcell := hrow (i / 64) h
    have hlt : nth l (i / 64) < B64 := Ok.getD (by decide) hok _
    have hfin := hide (bit_val (k := 64) (by omega) hok i)
    change Hid (nth l (i / 64) / 2 ^ (i % 64) % 2 = val (2 ^ 64) l / 2 ^ i % 2) at hfin
    clear hrow
    generalize nth l (i / 64) = x at *
    go_wp2_with fail
    go_ret
    refine ⟨ret_int ?_, Below.refl _ _⟩
    change _ = ((val (2 ^ 64) l / 2 ^ i % 2 : Nat) : Int)
    rw [← hfin.out, ← bits_and_one _ (Nat.lt_of_le_of_lt (Nat.div_le_self _ _) hlt), Int.natCast_ediv, Int.natCast_pow]; rfl
  · have hd : decide ((l.length : Int) ≤ (i : Int) / 64) = true := by rw [decide_eq_true_iff]; omega
    go_wp2_with fail
    go_ret
    refine ⟨ret_int ?_, Below.refl _ _⟩
    change _ = ((val (2 ^ 64) l / 2 ^ i % 2 : Nat) : Int)
    rw [← bit_val (k := 64) (by omega) hok i, List.getD_eq_getElem?_getD, List.getElem?_eq_none (by omega)]
    simp

theorem dlen {l : List Nat} (hok : Ok B64 l) : (digs B64 (val B64 l)).length ≤ l.length := digs_length_le B64_ge (val_lt hok)

/-- what Cmp answers. -/
def cmpI (a b : Nat) : Int := if a < b then -1 else if a = b then 0 else 1

theorem cmp_len {a b : Nat} (h : (digs B64 a).length < (digs B64 b).length) : a < b := by
  rcases Nat.lt_or_ge a b with h1 | h1
  · exact h1
  · have := digs_length_gt (B := B64) B64_ge (n := b) (k := (digs B64 b).length - 1) ?_
    · have h2 := digs_lt B64_ge a
      have h3 : B64 ^ ((digs B64 b).length - 1) ≤ b := by
        rcases Nat.lt_or_ge b (B64 ^ ((digs B64 b).length - 1)) with h4 | h4
        · have := digs_length_le B64_ge h4; omega
        · exact h4
      have h5 := Nat.pow_le_pow_right (n := B64) (by decide) (show (digs B64 a).length ≤ (digs B64 b).length - 1 by omega)
      omega
    · rcases Nat.lt_or_ge b (B64 ^ ((digs B64 b).length - 1)) with h4 | h4
      · have := digs_length_le B64_ge h4; omega
      · exact h4

/-- two numbers of one length, alike from place n + 1 on: the place n decides. -/
theorem cmp_at {L M : List Nat} (hL : Ok B64 L) (hM : Ok B64 M) (hlen : L.length = M.length) {n : Nat} (hn : n < L.length)
    (hz : ∀ i, n < i → i < L.length → nth L i = nth M i) (hlt : nth L n < nth M n) : val B64 L < val B64 M := by
  have h1 := val_take_drop (B := B64) L (n + 1) (by omega)
  have h2 := val_take_drop (B := B64) M (n + 1) (by omega)
  have hd : L.drop (n + 1) = M.drop (n + 1) := by
    apply List.ext_getElem
    · simp [hlen]
    · intro i h3 h4
      simp only [List.length_drop] at h3 h4
      have := hz (n + 1 + i) (by omega) (by omega)
      rw [nth_of_lt (by omega), nth_of_lt (by omega)] at this
      simpa using this
  have t1 := val_take_succ (B := B64) L n (by omega)
  have t2 := val_take_succ (B := B64) M n (by omega)
  have b1 := val_lt (hL.take n)
  rw [List.length_take, Nat.min_eq_left (by omega)] at b1
  rw [← nth_of_lt] at t1 t2
  rw [h1, h2, hd, t1, t2]
  have : B64 ^ n * nth L n + B64 ^ n ≤ B64 ^ n * nth M n := by rw [← Nat.mul_succ]; exact Nat.mul_le_mul_left _ hlt
  omega

set_option maxHeartbeats 400000 in
theorem cmp_any (A A' : Option Addr) (c c' : Nat) (l m : List Nat) (w : World) (hr : Rd w .u64 A l) (hc : l.length ≤ c) (hlim : l.length ≤ lim) (hok : Ok B64 l)
    (hr' : Rd w .u64 A' m) (hc' : m.length ≤ c') (hlim' : m.length ≤ lim) (hok' : Ok B64 m) :
    Calls Try.prog 68 #[.slice A l.length c, .slice A' m.length c'] w fun e w' => e = .returned (.int .i64 (cmpI (val B64 l) (val B64 m))) ∧ Below w.heap.size w w' := by
  go_enter Try.func68, Try.ntmps68
  go_wp2_with fail
  refine (trim_any A c l w hr hc hlim hok).mono ?_
  rintro e w1 ⟨A1, c1, rfl, hc1, hr1, hb1⟩
  go_wp2_with fail
  refine (trim_any A' c' m w1 (hr'.below hb1) hc' hlim' hok').mono ?_
  rintro e w2 ⟨A2, c2, rfl, hc2, hr2, hb2⟩
  have hr1 := hr1.below hb2
  have hb := below_next hb1 hb2
  clear hb1 hb2 hr hr'
  have l1 := dlen hok
  have l2 := dlen hok'
  unfold lim at hlim hlim'
  obtain ⟨a, ha⟩ : ∃ a, a = val B64 l := ⟨_, rfl⟩
  obtain ⟨b, hb'⟩ : ∃ b, b = val B64 m := ⟨_, rfl⟩
  have HA := hide ha
  have HB := hide hb'
  rw [← ha] at hc1 hr1 l1 ⊢
  rw [← hb'] at hc2 hr2 l2 ⊢
  clear ha hb'
  have HC1 := hide (@cmp_len a b)
  have HC2 := hide (@cmp_len b a)
  have hvL := hide (val_digs B64_ge a)
  have hvM := hide (val_digs B64_ge b)
  have okL := digs_ok B64_ge a
  have okM := digs_ok B64_ge b
  generalize digs B64 a = L at *
  generalize digs B64 b = M at *
  generalize hp : L.length = p at *
  generalize hq : M.length = q at *
  have HP := hide hp; clear hp
  have HQ := hide hq; clear hq
  by_cases hpq : p = q
  · subst hpq
    have hne : ((p : Int) != (p : Int)) = false := by simp
    go_wp2_with fail
    go_loopw [5] (fun s wr => ∃ n k : Nat, n ≤ p ∧ s = .int .i64 ((n : Int) - 1) ∧ wr = w2.drewN k ∧ Hid (∀ i, n ≤ i → i < p → nth L i = nth M i)) (fun s _ => (intOf s + 1).toNat)
    case atStart => exact ⟨p, 0, Nat.le_refl _, rfl, rfl, fun i h1 h2 => by omega⟩
    case round =>
      obtain ⟨n, k, hn, rfl, rfl, hz⟩ := hrel
      rcases n with _ | n
      · have hfin := hide (show cmpI (val B64 l) (val B64 m) = 0 by
          have : L = M := List.ext_getElem (by rw [HP.out, HQ.out]) fun i h1 h2 => by
            have := hz.out i (by omega) (by rw [← HP.out]; exact h1)
            rwa [nth_of_lt h1, nth_of_lt h2] at this
          have e : val B64 l = val B64 m := by rw [← HA.out, ← HB.out, ← hvL.out, ← hvM.out, this]
          unfold cmpI; rw [e]; simp)
        have hd : decide ((0 : Int) ≤ ((0 : Nat) : Int) - 1) = false := by decide
        go_wp2_with fail
        go_ret
        exact ⟨ret_int (by rw [hfin.out]), below_drewN hb _⟩
      · rw [show ((n + 1 : Nat) : Int) - 1 = (n : Int) from by omega]
        have i1 : (n : Int) < (p : Int) := by omega
        obtain ⟨b1, off1, rfl, hrow1⟩ := hr1 (by rw [HP.out]; omega)
        obtain ⟨b2, off2, rfl, hrow2⟩ := hr2 (by rw [HQ.out]; omega)
        have hc1 := hrow1 n (by rw [HP.out]; omega)
        have hc2 := hrow2 n (by rw [HQ.out]; omega)
        have hx : nth L n < B64 := Ok.getD (by decide) okL _
        have hy : nth M n < B64 := Ok.getD (by decide) okM _
        have hlt1 := hide (cmp_at okL okM (by rw [HP.out, HQ.out]) (n := n) (by rw [HP.out]; omega) (fun i h1 h2 => hz.out i (by omega) (by rw [← HP.out]; exact h2)))
        have hlt2 := hide (cmp_at okM okL (by rw [HP.out, HQ.out]) (n := n) (by rw [HQ.out]; omega) (fun i h1 h2 => (hz.out i (by omega) (by rw [← HQ.out]; exact h2)).symm))
        have hzz := hide (show nth L n = nth M n → ∀ i, n ≤ i → i < p → nth L i = nth M i from fun e i h1 h2 => by
          rcases Nat.lt_or_ge i (n + 1) with h3 | h3
          · rw [show i = n by omega]; exact e
          · exact hz.out i h3 h2)
        clear hrow1 hrow2
        rw [hvL.out, hvM.out] at hlt1
        rw [hvL.out, hvM.out] at hlt2
        generalize nth L n = x at *
        generalize nth M n = y at *
        by_cases hxy : x = y
        · have hd : ((x : Int) != (y : Int)) = false := by simp [hxy]
          have hxy := hide hxy
          go_wp2_with fail
          go_quiet (fail)
          go_wp2_with fail
          refine ⟨⟨n, _, by omega, ?_, rfl, hzz.out hxy.out⟩, by simp [intOf]⟩
          rfl
        · have hd : ((x : Int) != (y : Int)) = true := by simp; omega
          have hfin := hide (show ordI x y = cmpI (val B64 l) (val B64 m) by
            unfold cmpI ordI
            rw [← HA.out, ← HB.out]
            rcases Nat.lt_or_ge x y with h1 | h1
            · have := hlt1.out h1
              rw [if_pos h1, if_pos this]
            · have := hlt2.out (by omega)
              rw [if_neg (by omega), if_neg (by omega), if_neg (by omega)])
          go_wp2_with fail
          go_quiet (fail)
          go_wp2_with fail
          go_quiet ((go_at_call 114; exact quiet_at (order_any _ _)))
          go_wp2_with fail
          go_ret
          exact ⟨ret_int hfin.out, (by repeat (first | exact hb | refine below_drewN ?_ _))⟩
  · have hd : ((p : Int) != (q : Int)) = true := by simp; omega
    have hfin := hide (show ordI p q = cmpI (val B64 l) (val B64 m) by
      unfold cmpI ordI
      rw [← HA.out, ← HB.out]
      rcases Nat.lt_or_ge p q with h1 | h1
      · have := HC1.out h1
        rw [if_pos h1, if_pos this]
      · have := HC2.out (by omega)
        rw [if_neg (by omega), if_neg (by omega), if_neg (by omega)])
    go_wp2_with fail
    refine (order_any p q _).mono ?_
    rintro e w3 ⟨rfl, rfl⟩
    go_wp2_with fail
    go_ret
    exact ⟨ret_int hfin.out, hb⟩
end Go.Proofs.Ytincemkjdgbnnaa

set_option linter.unusedVariables false
set_option linter.unusedSimpArgs false
namespace Go.Proofs.Ytincemkjdgbnnaa
open Go.RowKit Lm

/-- the number whose bytes these are, the highest first. -/
def be (l : List Nat) : Nat := val 256 l.reverse

theorem be_snoc (l : List Nat) (x : Nat) : be (l ++ [x]) = x + 256 * be l := by simp [be]
theorem be_take_succ (l : List Nat) (i : Nat) (h : i < l.length) : be (l.take (i + 1)) = nth l i + 256 * be (l.take i) := by
  rw [List.take_succ_eq_append_getElem h, be_snoc, nth_of_lt h]

theorem or_add {x y m : Nat} (hx : x % 2 ^ m = 0) (hy : y < 2 ^ m) : x ||| y = x + y := by
  have h : x = 2 ^ m * (x / 2 ^ m) := by have := Nat.div_add_mod x (2 ^ m); omega
  rw [h, Nat.two_pow_add_eq_or_of_lt hy]

/-- one byte is laid into its limb. -/
theorem from_step {N m i V c : Nat} (hi : i < m) (hN : N = (m + 7) / 8) (hV : V = 256 ^ (m - i) * (V / 256 ^ (m - i))) (hVm : V < 256 ^ m) (hc : c < 256) :
    (fix B64 N V).set ((m - 1 - i) / 8) (nth (fix B64 N V) ((m - 1 - i) / 8) ||| c * 2 ^ ((m - 1 - i) % 8 * 8)) = fix B64 N (V + c * 256 ^ (m - 1 - i)) ∧
      c * 2 ^ ((m - 1 - i) % 8 * 8) < B64 := by
  generalize hat : m - 1 - i = a at *
  have hmi : m - i = a + 1 := by omega
  rw [hmi] at hV
  generalize V / 256 ^ (a + 1) = q at hV
  have hj : a / 8 < N := by omega
  have hr : a % 8 < 8 := Nat.mod_lt _ (by omega)
  have ha := Nat.div_add_mod a 8
  generalize a / 8 = j at *
  generalize a % 8 = r at *
  have e256 : ∀ k, 256 ^ k = 2 ^ (8 * k) := fun k => by rw [Nat.pow_mul]
  have eB : ∀ k, B64 ^ k = 2 ^ (64 * k) := fun k => by rw [Nat.pow_mul]; rfl
  have hlt : c * 2 ^ (r * 8) < 2 ^ (r * 8 + 8) := by
    rw [Nat.pow_add, Nat.mul_comm]; exact Nat.mul_lt_mul_of_pos_left (by omega) (Nat.pow_pos (by omega))
  have hle : 2 ^ (r * 8 + 8) ≤ B64 := Nat.pow_le_pow_right (by omega) (show r * 8 + 8 ≤ 64 by omega)
  have hold : nth (fix B64 N V) j = V / B64 ^ j % B64 := by
    rw [nth_of_lt (by rw [fix_length]; exact hj), fix_getElem]
  have hVj : V / B64 ^ j = 2 ^ (r * 8 + 8) * q := by
    rw [hV, e256, eB, show 8 * (a + 1) = 64 * j + (r * 8 + 8) by omega, Nat.pow_add, Nat.mul_assoc, Nat.mul_div_cancel_left _ (Nat.pow_pos (by omega))]
  have hmod : nth (fix B64 N V) j % 2 ^ (r * 8 + 8) = 0 := by
    rw [hold, hVj]
    have : (2 ^ (r * 8 + 8)) ∣ B64 := Nat.pow_dvd_pow 2 (show r * 8 + 8 ≤ 64 by omega)
    rw [Nat.mod_mod_of_dvd _ this, Nat.mul_mod_right]
  have hor := or_add hmod hlt
  refine ⟨?_, by omega⟩
  rw [hor]
  have holdB : nth (fix B64 N V) j < B64 := by rw [hold]; exact Nat.mod_lt _ (by decide)
  have hnew : nth (fix B64 N V) j + c * 2 ^ (r * 8) < B64 := by
    generalize nth (fix B64 N V) j = x at *
    have h1 := Nat.div_add_mod x (2 ^ (r * 8 + 8))
    rw [hmod] at h1
    obtain ⟨t, ht⟩ : (2 ^ (r * 8 + 8)) ∣ B64 := Nat.pow_dvd_pow 2 (show r * 8 + 8 ≤ 64 by omega)
    rw [ht] at holdB ⊢
    rw [← h1] at holdB ⊢
    have := Nat.lt_of_mul_lt_mul_left (show 2 ^ (r * 8 + 8) * (x / 2 ^ (r * 8 + 8)) < 2 ^ (r * 8 + 8) * t by omega)
    have h3 : 2 ^ (r * 8 + 8) * (x / 2 ^ (r * 8 + 8)) + 2 ^ (r * 8 + 8) ≤ 2 ^ (r * 8 + 8) * t := by rw [← Nat.mul_succ]; exact Nat.mul_le_mul_left _ this
    omega
  have hadd : V + c * 256 ^ a = V + B64 ^ j * (c * 2 ^ (r * 8)) := by
    rw [e256, eB, show 8 * a = 64 * j + r * 8 by omega, Nat.pow_add, Nat.mul_left_comm]
  have hVN : V + c * 256 ^ a < B64 ^ N := by
    have h1 : 256 ^ m ≤ B64 ^ N := by rw [e256, eB]; exact Nat.pow_le_pow_right (by omega) (by omega)
    have h2 : c * 256 ^ a < 256 ^ (a + 1) := by rw [Nat.pow_succ, Nat.mul_comm]; exact Nat.mul_lt_mul_of_pos_left (by omega) (Nat.pow_pos (by omega))
    have h3 : 256 ^ (a + 1) ∣ 256 ^ m := Nat.pow_dvd_pow 256 (by omega)
    obtain ⟨t, ht⟩ := h3
    rw [ht] at hVm h1
    rw [hV] at hVm ⊢
    have := Nat.lt_of_mul_lt_mul_left hVm
    have : 256 ^ (a + 1) * q + 256 ^ (a + 1) ≤ 256 ^ (a + 1) * t := by rw [← Nat.mul_succ]; exact Nat.mul_le_mul_left _ this
    omega
  refine val_inj (Ok.set (fix_ok (by decide) _ _) hnew) (fix_ok (by decide) _ _) (by rw [List.length_set, fix_length, fix_length]) ?_
  have hs := val_set (B := B64) (fix B64 N V) j (nth (fix B64 N V) j + c * 2 ^ (r * 8)) (by rw [fix_length]; exact hj)
  rw [← nth_of_lt (by rw [fix_length]; exact hj)] at hs
  rw [val_fix_of_lt (show V < B64 ^ N by omega), Nat.mul_add] at hs
  rw [val_fix_of_lt hVN, hadd]
  omega

theorem or_u64 {x y : Nat} (hx : x < B64) (hy : y < B64) : bits .or .u64 (x : Int) (y : Int) = ((x ||| y : Nat) : Int) := bits_or_u64_nat x y hx hy

theorem or_shl {x y k : Nat} (hy : y < B64) (h : x * 2 ^ k < B64) : bits .or .u64 (y : Int) (IntKind.u64.wrap ((x : Int) * 2 ^ k)) = ((y ||| x * 2 ^ k : Nat) : Int) := by
  have e : ((x : Int) * 2 ^ k) = ((x * 2 ^ k : Nat) : Int) := by simp
  have h2 := h
  rw [B64_eq] at h2
  rw [e, wrap_u _ (by omega) (by omega), or_u64 hy h]

theorem Try.info_u64 : (Try.prog.info? 22).map (fun i => (i.zero, i.size, i.bytes)) = some (some (.int .u64 0), 1, 8) := by kernel_rfl
theorem Try.info_u8 : (Try.prog.info? 5).map (fun i => (i.zero, i.size, i.bytes)) = some (some (.int .u8 0), 1, 1) := by kernel_rfl
theorem Try.info_u32 : (Try.prog.info? 95).map (fun i => (i.zero, i.size, i.bytes)) = some (some (.int .u32 0), 1, 4) := by kernel_rfl

theorem mk_row {P : Program} {t e : TypeId} {k : IntKind} {by_ : Nat} (ht : P.underlying t = some (.slice e)) (hinfo : (P.info? e).map (fun i => (i.zero, i.size, i.bytes)) = some (some (.int k 0), 1, by_)) (hby : by_ ≤ 8)
    (x : Int) (n : Nat) (hx : x = (n : Int)) (hn : n ≤ lim) (W : World) :
    (Instr.makeSlice t (.int .i64 x) (.int .i64 x)).run P W = .ok (.slice (some ⟨W.heap.size, 0, none⟩) n n) (W.alloc (nblk k e (List.replicate n 0))) := by
  subst hx
  unfold lim at hn
  obtain ⟨i, hi, hz, hs, hb⟩ := info_parts hinfo
  have hb2 : (i.bytes : Int) * (n : Int) ≤ 281474976710656 := by
    have : i.bytes * n ≤ 8 * 1099511627776 := Nat.mul_le_mul (by omega) hn
    omega
  have hr := run_make (P := P) W t e i (.int k 0) ht hi hz .i64 .i64 (n : Int) (n : Int) (by omega) (by omega) hb2 (by omega)
  rw [hr, hs]
  simp only [nblk, madeCells, Value.cells, Int.toNat_natCast, Nat.mul_one]
  congr 3
  apply Array.ext
  · simp
  · intro j h1 h2; simp [Nat.mod_one]

theorem mk_u64 (x : Int) (n : Nat) (hx : x = (n : Int)) (hn : n ≤ lim) (W : World) :
    (Instr.makeSlice 104 (.int .i64 x) (.int .i64 x)).run Try.prog W = .ok (.slice (some ⟨W.heap.size, 0, none⟩) n n) (W.alloc (nblk .u64 22 (List.replicate n 0))) :=
  mk_row Try.underlying104 Try.info_u64 (by omega) x n hx hn W

set_option maxRecDepth 100000 in
set_option maxHeartbeats 800000 in
theorem from_any (A : Option Addr) (c : Nat) (l : List Nat) (w : World) (hr : Rd w .u8 A l) (hc : l.length ≤ c) (hlim : l.length ≤ lim) (hok : Ok 256 l) :
    Calls Try.prog 66 #[.slice A l.length c] w (RetSl w .u64 (digs B64 (be l))) := by
  have hlim2 := hlim
  unfold lim at hlim2
  obtain ⟨N, hN⟩ : ∃ N, N = (l.length + 7) / 8 := ⟨_, rfl⟩
  generalize hm : l.length = m at *
  have Hm := hide hm; clear hm
  have HN := hide hN
  have hmk := mk_u64 (((m : Int) + 7) / 8) N (by rw [hN]; omega) (by unfold lim; omega)
  clear hN
  go_enter Try.func66, Try.ntmps66
  go_wp2_with fail
  go_loopw [4, 5, 6, 14] (fun s4 s5 s6 k wr => ∃ i : Nat, i ≤ m ∧ k = .int .i64 i ∧ Only (w.alloc (nblk .u64 22 (List.replicate N 0))) wr w.heap.size ∧
    Blk wr w.heap.size 22 .u64 (fix B64 N (be (l.take i) * 256 ^ (m - i)))) (fun _ _ _ k _ => m - (intOf k).toNat)
  case atStart =>
    refine ⟨0, Nat.zero_le _, rfl, Only.refl _ _, ?_⟩
    have : fix B64 N (be (l.take 0) * 256 ^ (m - 0)) = List.replicate N 0 := by
      refine val_inj (fix_ok (by decide) _ _) (Ok.replicate (by decide) _) (by rw [fix_length, List.length_replicate]) ?_
      rw [val_replicate, val_fix]; simp [be]
    rw [this]
    exact Blk.new _ _ _ _
  case round =>
    obtain ⟨i, hi, rfl, hon, hblk⟩ := hrel
    by_cases hlt : i < m
    · obtain ⟨b, off, rfl, hrow⟩ := hr (by rw [Hm.out]; omega)
      have hbw := hrow.lt (by rw [Hm.out]; omega)
      have hrow2 : RowN wr .u8 b off l := hon.row (hrow.below ((Below.refl _ _).alloc (Nat.le_refl _) _)) (by omega)
      have hcell := hrow2 i (by rw [Hm.out]; exact hlt)
      have hx : nth l i < 256 := Ok.getD (by decide) hok _
      obtain ⟨a, ha⟩ : ∃ a, a = m - 1 - i := ⟨_, rfl⟩
      have ha' : (m : Int) - 1 - (i : Int) = (a : Int) := by omega
      have hab : a < m := by omega
      have hjN : a / 8 < N := by rw [HN.out]; omega
      have hV : be (l.take i) * 256 ^ (m - i) < 256 ^ m := by
        have h1 := val_lt (B := 256) (l := (l.take i).reverse) (fun y hy => hok.take i y (List.mem_reverse.1 hy))
        rw [List.length_reverse, List.length_take, Hm.out, Nat.min_eq_left hi] at h1
        have : 256 ^ m = 256 ^ i * 256 ^ (m - i) := by rw [← Nat.pow_add]; congr 1; omega
        rw [this]
        exact Nat.mul_lt_mul_of_pos_right h1 (Nat.pow_pos (by omega))
      have hst := from_step (N := N) (V := be (l.take i) * 256 ^ (m - i)) (c := nth l i) hlt HN.out (by
        rw [Nat.mul_div_cancel _ (Nat.pow_pos (by omega)), Nat.mul_comm]) hV hx
      have hV2 : be (l.take i) * 256 ^ (m - i) + nth l i * 256 ^ (m - 1 - i) = be (l.take (i + 1)) * 256 ^ (m - (i + 1)) := by
        rw [be_take_succ l i (by rw [Hm.out]; exact hlt), show m - i = (m - 1 - i) + 1 by omega, show m - (i + 1) = m - 1 - i by omega, Nat.pow_succ, Nat.add_mul]
        simp only [Nat.mul_assoc, Nat.mul_comm, Nat.mul_left_comm, Nat.add_comm]
      rw [hV2, ← ha] at hst
      have hcell2 := hblk.cell (i := a / 8) (by rw [fix_length]; exact hjN)
      have hfr := hblk.frozen (a / 8)
      have hy : nth (fix B64 N (be (l.take i) * 256 ^ (m - i))) (a / 8) < B64 := Ok.getD (by decide) (fix_ok (by decide) _ _) _
      have Hst := hide hst
      have Hblk := hide hblk
      have Hon := hide hon
      clear hrow hrow2 hr hst hblk hon hV hV2 hmk
      generalize fix B64 N (be (l.take i) * 256 ^ (m - i)) = L at *
      generalize nth l i = x at *
      generalize nth L (a / 8) = y at *
      have Ha := hide ha
      clear ha
      go_wp2_with fail
      clear ha'
      have i0 : (0 : Int) ≤ (a : Int) / 8 := by omega
      have i1 : (a : Int) / 8 < (N : Int) := by omega
      have i2 : ((a : Int) / 8).toNat = a / 8 := by omega
      have iw := wrap_in ((a : Int) / 8) (by omega) (by omega)
      have iw2 := wrap_in ((a : Int) % 8) (by omega) (by omega)
      have iw3 := wrap_in ((a : Int) % 8 * 8) (by omega) (by omega)
      go_region
      go_wp2_with fail
      have hE := or_shl hy Hst.out.2
      have hblk2 := Blk.drew (Hblk.out.set_ (a / 8) hE)
      rw [Hst.out.1] at hblk2
      exact ⟨⟨i + 1, by omega, by simp, (Hon.out.set_ _ _).drew, hblk2⟩, by simp [intOf]; omega⟩
    · obtain rfl : i = m := by omega
      have hfull : l.take i = l := List.take_of_length_le (by rw [Hm.out]; exact Nat.le_refl _)
      rw [hfull, Nat.sub_self, Nat.pow_zero, Nat.mul_one] at hblk
      have hbw : Below w.heap.size w wr := Only.below ((Below.refl _ _).alloc (Nat.le_refl _) _) hon (Nat.le_refl _)
      have hv : be l < B64 ^ N := by
        have h1 := val_lt (B := 256) (l := l.reverse) (fun y hy => hok y (List.mem_reverse.1 hy))
        rw [List.length_reverse, Hm.out] at h1
        have h2 : 256 ^ i ≤ B64 ^ N := by
          rw [show B64 = 2 ^ 64 from rfl, show (256 : Nat) = 2 ^ 8 from rfl, ← Nat.pow_mul, ← Nat.pow_mul]
          exact Nat.pow_le_pow_right (by omega) (by rw [HN.out]; omega)
        exact Nat.lt_of_lt_of_le h1 h2
      have htr := trim_any (some ⟨w.heap.size, 0, none⟩) N (fix B64 N (be l)) wr (fun _ => ⟨_, _, rfl, hblk.row0⟩) (by rw [fix_length]; exact Nat.le_refl _) (by rw [fix_length, HN.out]; unfold lim; omega) (fix_ok (by decide) _ _)
      rw [fix_length, val_fix_of_lt hv] at htr
      have Htr := hide htr
      clear htr hblk hon hmk
      go_wp2_with fail
      refine Htr.out.mono ?_
      rintro e w2 ⟨A2, c2, rfl, hc2, hr2, hb2⟩
      go_wp2_with fail
      go_ret
      exact retsl_mk (below_next hbw hb2) rfl hc2 hr2
end Go.Proofs.Ytincemkjdgbnnaa

set_option linter.unusedVariables false
set_option linter.unusedSimpArgs false
namespace Go.Proofs.Ytincemkjdgbnnaa
open Go.RowKit Lm

/-! the calls that the model runs by itself; their answers behind names, so that the walk leaves them whole -/
def ad1 (x y c : Nat) : Nat := (x + y + c) % B64
def cy1 (x y c : Nat) : Nat := (x + y + c) / B64
def df1 (x y b : Nat) : Nat := (x + B64 - y - b) % B64
def bo1 (x y b : Nat) : Nat := if x < y + b then 1 else 0
def mh1 (x y : Nat) : Nat := x * y / B64
def ml1 (x y : Nat) : Nat := x * y % B64
theorem B64_pos : 0 < B64 := by decide
theorem ad1_lt (x y c : Nat) : ad1 x y c < B64 := Nat.mod_lt _ B64_pos
theorem df1_lt (x y c : Nat) : df1 x y c < B64 := Nat.mod_lt _ B64_pos
theorem ml1_lt (x y : Nat) : ml1 x y < B64 := Nat.mod_lt _ B64_pos
theorem bo1_le (x y c : Nat) : bo1 x y c ≤ 1 := by unfold bo1; split <;> omega
theorem cy1_le {x y c : Nat} (hx : x < B64) (hy : y < B64) (hc : c ≤ 1) : cy1 x y c ≤ 1 := by unfold cy1; rw [B64_eq] at *; omega

@[go_sem] theorem run_Add64 (x y c : Nat) (hc : c ≤ 1) (w : World) :
    (callFunc 119 #[.int .u64 (x : Int), .int .u64 (y : Int), .int .u64 (c : Int)]).run Try.prog w =
      .ok (.value (.tuple #[.int .u64 (ad1 x y c : Int), .int .u64 (cy1 x y c : Int)])) w := by
  rw [run_callFunc_extern Try.func119 (by kernel_rfl) (by kernel_rfl) (by kernel_rfl) (e := add64Entry) (by kernel_rfl), run_add64 x y c (by omega) (by omega) (by omega) (by omega)]
  simp only [Result.andThen, B64_eq, ad1, cy1]
  congr 5 <;> omega
@[go_sem] theorem run_Add64_0 (x y : Nat) (w : World) :
    (callFunc 119 #[.int .u64 (x : Int), .int .u64 (y : Int), .int .u64 0]).run Try.prog w =
      .ok (.value (.tuple #[.int .u64 (ad1 x y 0 : Int), .int .u64 (cy1 x y 0 : Int)])) w := run_Add64 x y 0 (by omega) w
@[go_sem] theorem run_Add64_1 (x c : Nat) (hc : c ≤ 1) (w : World) :
    (callFunc 119 #[.int .u64 (x : Int), .int .u64 0, .int .u64 (c : Int)]).run Try.prog w =
      .ok (.value (.tuple #[.int .u64 (ad1 x 0 c : Int), .int .u64 (cy1 x 0 c : Int)])) w := run_Add64 x 0 c hc w

def sub64E : Array Value → Sem Value := fun args => do
  let (x, y, b) ← Extern.MathBitsCarry.three "Sub64" args
  pure (Extern.MathBitsCarry.pair ((x + Extern.MathBitsCarry.m64 - y - b) % Extern.MathBitsCarry.m64) (if x < y + b then 1 else 0))
theorem run_sub64E (x y b : Nat) (hb : b ≤ 1) (w : World) :
    (sub64E #[.int .u64 (x : Int), .int .u64 (y : Int), .int .u64 (b : Int)]).run Try.prog w =
      .ok (.tuple #[.int .u64 (((x + 18446744073709551616 - y - b) % 18446744073709551616 : Nat) : Int), .int .u64 ((if x < y + b then 1 else 0 : Nat) : Int)]) w := by
  have h : b = 0 ∨ b = 1 := by omega
  rcases h with rfl | rfl <;> rfl
@[go_sem] theorem run_Sub64 (x y b : Nat) (hb : b ≤ 1) (w : World) :
    (callFunc 123 #[.int .u64 (x : Int), .int .u64 (y : Int), .int .u64 (b : Int)]).run Try.prog w =
      .ok (.value (.tuple #[.int .u64 (df1 x y b : Int), .int .u64 (bo1 x y b : Int)])) w := by
  rw [run_callFunc_extern Try.func123 (by kernel_rfl) (by kernel_rfl) (by kernel_rfl) (e := sub64E) (by kernel_rfl), run_sub64E x y b hb]
  simp only [Result.andThen, B64_eq, df1, bo1]
@[go_sem] theorem run_Sub64_0 (x b : Nat) (hb : b ≤ 1) (w : World) :
    (callFunc 123 #[.int .u64 (x : Int), .int .u64 0, .int .u64 (b : Int)]).run Try.prog w =
      .ok (.value (.tuple #[.int .u64 (df1 x 0 b : Int), .int .u64 (bo1 x 0 b : Int)])) w := run_Sub64 x 0 b hb w

theorem mul64_any (x y : Nat) (hx : x < B64) (hy : y < B64) (w : World) :
    Calls Try.prog 141 #[.int .u64 (x : Int), .int .u64 (y : Int)] w fun e w' => e = .returned (.tuple #[.int .u64 (mh1 x y : Int), .int .u64 (ml1 x y : Int)]) ∧ w' = w :=
  Try.bits_Mul64 x y hx hy w

theorem carry_le {a b i : Nat} (ha : a < B64 ^ i) (hb : b < B64 ^ i) : (a + b) / B64 ^ i ≤ 1 := by
  have : (a + b) / B64 ^ i < 2 := (Nat.div_lt_iff_lt_mul (Nat.pow_pos (by decide))).2 (by omega)
  omega

theorem zeros_eq (n : Nat) : List.replicate n 0 = fix B64 n 0 :=
  val_inj (Ok.replicate B64_pos _) (fix_ok B64_pos _ _) (by rw [fix_length, List.length_replicate]) (by rw [val_replicate, val_fix]; simp)

set_option maxRecDepth 100000 in
set_option maxHeartbeats 800000 in
theorem add_any (A A' : Option Addr) (c c' : Nat) (l m : List Nat) (w : World) (hr : Rd w .u64 A l) (hc : l.length ≤ c) (hlim : l.length < lim) (hok : Ok B64 l)
    (hr' : Rd w .u64 A' m) (hc' : m.length ≤ c') (hok' : Ok B64 m) (hml : m.length ≤ l.length) :
    Calls Try.prog 126 #[.slice A l.length c, .slice A' m.length c'] w (RetSl w .u64 (digs B64 (val B64 l + val B64 m))) := by
  have hlim2 := hlim
  unfold lim at hlim2
  generalize hp : l.length = p at *
  generalize hq : m.length = q at *
  have HP := hide hp; clear hp
  have HQ := hide hq; clear hq
  have hmk := mk_u64 ((p : Int) + 1) (p + 1) (by omega) (by unfold lim; omega)
  have hd : decide ((p : Int) < (q : Int)) = false := by simp; omega
  go_enter Try.func126, Try.ntmps126
  go_wp2_with fail
  go_loopw [6, 7, 8, 22] (fun cy s7 s8 k wr => ∃ i : Nat, i ≤ p ∧ k = .int .i64 i ∧ cy = .int .u64 (((val B64 (l.take i) + val B64 (m.take i)) / B64 ^ i : Nat) : Int) ∧
    Only (w.alloc (nblk .u64 22 (List.replicate (p + 1) 0))) wr w.heap.size ∧
    Blk wr w.heap.size 22 .u64 (ch B64 i ((val B64 (l.take i) + val B64 (m.take i)) % B64 ^ i) (List.replicate (p + 1) 0))) (fun _ _ _ k _ => p - (intOf k).toNat)
  case atStart =>
    exact ⟨0, Nat.zero_le _, rfl, by simp, Only.refl _ _, by rw [ch_zero]; exact Blk.new _ _ _ _⟩
  case round =>
    obtain ⟨i, hi, rfl, rfl, hon, hblk⟩ := hrel
    have hT := carry_le (vt_lt hok B64_pos i) (vt_lt hok' B64_pos i)
    have hTm : (val B64 (l.take i) + val B64 (m.take i)) % B64 ^ i < B64 ^ i := Nat.mod_lt _ (Nat.pow_pos B64_pos)
    by_cases hlt : i < p
    · obtain ⟨b, off, rfl, hrow⟩ := hr (by rw [HP.out]; omega)
      have hbw := hrow.lt (by rw [HP.out]; omega)
      have hrow2 : RowN wr .u64 b off l := hon.row (hrow.below ((Below.refl _ _).alloc (Nat.le_refl _) _)) (by omega)
      have hcell := hrow2 i (by rw [HP.out]; exact hlt)
      have hx : nth l i < B64 := Ok.getD B64_pos hok _
      have hcell2 := hblk.cell (i := i) (by rw [ch_length (by simp; omega)]; simp; omega)
      have hfr := hblk.frozen i
      have hT' : val B64 (l.take (i + 1)) + val B64 (m.take (i + 1)) = val B64 (l.take i) + val B64 (m.take i) + B64 ^ i * (nth l i + nth m i) := by
        rw [vt_succ', vt_succ', Nat.mul_add]; omega
      have HN := hide (show cy1 (nth l i) (nth m i) ((val B64 (l.take i) + val B64 (m.take i)) / B64 ^ i) = (val B64 (l.take (i + 1)) + val B64 (m.take (i + 1))) / B64 ^ (i + 1) by
        unfold cy1; rw [hT', Nat.pow_succ, carry_div (Nat.pow_pos B64_pos), Nat.add_comm])
      have HB := hide (show Blk (wr.setCell ⟨w.heap.size, i, none⟩ (.int .u64 (ad1 (nth l i) (nth m i) ((val B64 (l.take i) + val B64 (m.take i)) / B64 ^ i) : Int))) w.heap.size 22 .u64
          (ch B64 (i + 1) ((val B64 (l.take (i + 1)) + val B64 (m.take (i + 1))) % B64 ^ (i + 1)) (List.replicate (p + 1) 0)) by
        have h1 := hblk.set_ i (E := _) (z := ad1 (nth l i) (nth m i) ((val B64 (l.take i) + val B64 (m.take i)) / B64 ^ i)) rfl
        rw [ch_set (by simp; omega) hTm (ad1_lt _ _ _)] at h1
        unfold ad1 at h1 ⊢
        rw [hT', Nat.pow_succ, carry_mod, Nat.add_comm ((val B64 (l.take i) + val B64 (m.take i)) / B64 ^ i)]
        exact h1)
      have Hon := hide hon
      generalize (val B64 (l.take i) + val B64 (m.take i)) / B64 ^ i = k0 at *
      generalize (val B64 (l.take i) + val B64 (m.take i)) % B64 ^ i = lo at *
      generalize nth (ch B64 i lo (List.replicate (p + 1) 0)) i = old at *
      generalize nth l i = x at *
      have hrq : i < q → Rd wr .u64 A' m := fun _ => by
        intro h
        obtain ⟨b', off', e, h2⟩ := hr' h
        exact ⟨b', off', e, hon.row (h2.below ((Below.refl _ _).alloc (Nat.le_refl _) _)) (by have := h2.lt h; omega)⟩
      clear hblk hon hT' hrow hrow2 hr hr' hmk
      by_cases hiq : i < q
      · obtain ⟨b', off', rfl, hrow'⟩ := hrq hiq (by rw [HQ.out]; omega)
        have hcell' := hrow' i (by rw [HQ.out]; exact hiq)
        clear hrow' hrq
        generalize nth m i = y at *
        go_wp2_with fail
        exact ⟨⟨i + 1, by omega, by simp, by rw [HN.out], Hon.out.set_ _ _, HB.out⟩, by simp [intOf]; omega⟩
      · rw [nth_of_ge (by rw [HQ.out]; omega)] at HN HB
        clear hrq
        go_wp2_with fail
        exact ⟨⟨i + 1, by omega, by simp, by rw [HN.out], Hon.out.set_ _ _, HB.out⟩, by simp [intOf]; omega⟩
    · obtain rfl : i = p := by omega
      rw [vt_full l (by rw [HP.out]; exact Nat.le_refl _), vt_full m (by rw [HQ.out]; exact hml)] at *
      have hbw : Below w.heap.size w wr := Only.below ((Below.refl _ _).alloc (Nat.le_refl _) _) hon (Nat.le_refl _)
      have hcell := hblk.cell (i := i) (by rw [ch_length (by simp)]; simp)
      have hfr := hblk.frozen i
      have HB := hide (hblk.set_ i (E := (((val B64 l + val B64 m) / B64 ^ i : Nat) : Int)) rfl)
      have HE := hide (show (ch B64 i ((val B64 l + val B64 m) % B64 ^ i) (List.replicate (i + 1) 0)).set i ((val B64 l + val B64 m) / B64 ^ i) = fix B64 (i + 1) (val B64 l + val B64 m) by
        rw [ch_set (by simp) hTm (Nat.lt_of_le_of_lt hT (by decide)), ch_full' (by simp), Nat.mod_add_div])
      have HV := hide (show val B64 l + val B64 m < B64 ^ (i + 1) by
        have h1 := val_lt hok
        have h2 := val_lt hok'
        rw [HP.out] at h1
        rw [HQ.out] at h2
        have h3 := Nat.pow_le_pow_right (n := B64) B64_pos hml
        rw [Nat.pow_succ, B64_eq]
        rw [B64_eq] at h1 h2 h3
        omega)
      rw [HE.out] at HB
      have Hon := hide hon
      clear hon hblk hmk
      generalize (val B64 l + val B64 m) / B64 ^ i = k0 at *
      generalize nth (ch B64 i ((val B64 l + val B64 m) % B64 ^ i) (List.replicate (i + 1) 0)) i = old at *
      go_wp2_with fail
      have hrd : Rd (wr.setCell ⟨w.heap.size, i, none⟩ (.int .u64 (k0 : Int))) .u64 (some ⟨w.heap.size, 0, none⟩) (fix B64 (i + 1) (val B64 l + val B64 m)) := fun _ => ⟨_, _, rfl, HB.out.row0⟩
      have htr := trim_any _ (i + 1) _ _ hrd (by rw [fix_length]; exact Nat.le_refl _) (by rw [fix_length]; unfold lim; omega) (fix_ok B64_pos _ _)
      rw [fix_length, val_fix_of_lt HV.out] at htr
      refine htr.mono ?_
      rintro e w2 ⟨A2, c2, rfl, hc2, hr2, hb2⟩
      go_wp2_with fail
      go_ret
      exact retsl_mk (below_next (Only.below hbw ((Only.refl _ _).set_ _ _) (Nat.le_refl _)) hb2) rfl hc2 hr2

set_option maxRecDepth 100000 in
set_option maxHeartbeats 800000 in
theorem sub_any (A A' : Option Addr) (c c' : Nat) (l m : List Nat) (w : World) (hr : Rd w .u64 A l) (hc : l.length ≤ c) (hlim : l.length ≤ lim) (hok : Ok B64 l)
    (hr' : Rd w .u64 A' m) (hc' : m.length ≤ c') (hlim' : m.length ≤ lim) (hok' : Ok B64 m) (hle : val B64 m ≤ val B64 l) :
    Calls Try.prog 122 #[.slice A l.length c, .slice A' m.length c'] w (RetSl w .u64 (digs B64 (val B64 l - val B64 m))) := by
  go_enter Try.func122, Try.ntmps122
  go_wp2_with fail
  refine (trim_any A c l w hr hc hlim hok).mono ?_
  rintro e w1 ⟨A1, c1, rfl, hc1, hr1, hb1⟩
  go_wp2_with fail
  refine (trim_any A' c' m w1 (hr'.below hb1) hc' hlim' hok').mono ?_
  rintro e w2 ⟨A2, c2, rfl, hc2, hr2, hb2⟩
  have hr1 := hr1.below hb2
  have hb := below_next hb1 hb2
  clear hb1 hb2 hr hr'
  have l1 := dlen hok
  have l2 := dlen hok'
  unfold lim at hlim hlim'
  have HA := hide (val_digs B64_ge (val B64 l))
  have HB := hide (val_digs B64_ge (val B64 m))
  have okL := digs_ok B64_ge (val B64 l)
  have okM := digs_ok B64_ge (val B64 m)
  have HL := hide (show (digs B64 (val B64 m)).length ≤ (digs B64 (val B64 l)).length from digs_length_le B64_ge (Nat.lt_of_le_of_lt hle (digs_lt B64_ge _)))
  have Hle := hide hle
  clear hle
  generalize digs B64 (val B64 l) = L at *
  generalize digs B64 (val B64 m) = M at *
  generalize hp : L.length = p at *
  generalize hq : M.length = q at *
  have HP := hide hp; clear hp
  have HQ := hide hq; clear hq
  have hmk := mk_u64 (p : Int) p rfl (by unfold lim; omega)
  go_wp2_with fail
  go_loopw [6, 7, 8, 18] (fun cy s7 s8 k wr => ∃ i : Nat, i ≤ p ∧ k = .int .i64 i ∧ cy = .int .u64 (bo (val B64 (L.take i)) (val B64 (M.take i)) : Int) ∧
    Only (w2.alloc (nblk .u64 22 (List.replicate p 0))) wr w2.heap.size ∧
    Blk wr w2.heap.size 22 .u64 (ch B64 i (sb (B64 ^ i) (val B64 (L.take i)) (val B64 (M.take i))) (List.replicate p 0))) (fun _ _ _ k _ => p - (intOf k).toNat)
  case atStart =>
    exact ⟨0, Nat.zero_le _, rfl, by simp [bo], Only.refl _ _, by rw [ch_zero]; exact Blk.new _ _ _ _⟩
  case round =>
    obtain ⟨i, hi, rfl, rfl, hon, hblk⟩ := hrel
    have ha := vt_lt okL B64_pos i
    have hb' := vt_lt okM B64_pos i
    have hbo := bo_le (val B64 (L.take i)) (val B64 (M.take i))
    have hsb := sb_lt ha hb'
    by_cases hlt : i < p
    · obtain ⟨b, off, rfl, hrow⟩ := hr1 (by rw [HP.out]; omega)
      have hbw := hrow.lt (by rw [HP.out]; omega)
      have hrow2 : RowN wr .u64 b off L := hon.row (hrow.below ((Below.refl _ _).alloc (Nat.le_refl _) _)) (by omega)
      have hcell := hrow2 i (by rw [HP.out]; exact hlt)
      have hx : nth L i < B64 := Ok.getD B64_pos okL _
      have hy : nth M i < B64 := Ok.getD B64_pos okM _
      have hcell2 := hblk.cell (i := i) (by rw [ch_length (by simp; omega)]; simp; omega)
      have hfr := hblk.frozen i
      have HN := hide (show bo1 (nth L i) (nth M i) (bo (val B64 (L.take i)) (val B64 (M.take i))) = bo (val B64 (L.take (i + 1))) (val B64 (M.take (i + 1))) by
        rw [vt_succ', vt_succ', bo_step ha hb']; rfl)
      have HB := hide (show Blk (wr.setCell ⟨w2.heap.size, i, none⟩ (.int .u64 (df1 (nth L i) (nth M i) (bo (val B64 (L.take i)) (val B64 (M.take i))) : Int))) w2.heap.size 22 .u64
          (ch B64 (i + 1) (sb (B64 ^ (i + 1)) (val B64 (L.take (i + 1))) (val B64 (M.take (i + 1)))) (List.replicate p 0)) by
        have h1 := hblk.set_ i (E := _) (z := df1 (nth L i) (nth M i) (bo (val B64 (L.take i)) (val B64 (M.take i)))) rfl
        rw [ch_set (by simp; omega) hsb (df1_lt _ _ _)] at h1
        rw [vt_succ', vt_succ', Nat.pow_succ, sb_step ha hb' hx hy]
        exact h1)
      have Hon := hide hon
      have hrq : i < q → Rd wr .u64 A2 M := fun _ => by
        intro h
        obtain ⟨b', off', e, h2⟩ := hr2 h
        exact ⟨b', off', e, hon.row (h2.below ((Below.refl _ _).alloc (Nat.le_refl _) _)) (by have := h2.lt h; omega)⟩
      generalize sb (B64 ^ i) (val B64 (L.take i)) (val B64 (M.take i)) = lo at *
      generalize bo (val B64 (L.take i)) (val B64 (M.take i)) = k0 at *
      generalize nth (ch B64 i lo (List.replicate p 0)) i = old at *
      generalize nth L i = x at *
      clear hblk hon hrow hrow2 hr1 hr2 hmk ha hb'
      by_cases hiq : i < q
      · obtain ⟨b', off', rfl, hrow'⟩ := hrq hiq (by rw [HQ.out]; omega)
        have hcell' := hrow' i (by rw [HQ.out]; exact hiq)
        clear hrow' hrq
        generalize nth M i = y at *
        go_wp2_with fail
        exact ⟨⟨i + 1, by omega, by simp, by rw [HN.out], Hon.out.set_ _ _, HB.out⟩, by simp [intOf]; omega⟩
      · rw [nth_of_ge (by rw [HQ.out]; omega)] at HN HB
        clear hrq
        go_wp2_with fail
        exact ⟨⟨i + 1, by omega, by simp, by rw [HN.out], Hon.out.set_ _ _, HB.out⟩, by simp [intOf]; omega⟩
    · obtain rfl : i = p := by omega
      have hbw : Below w.heap.size w wr := below_next hb (Only.below ((Below.refl _ _).alloc (Nat.le_refl _) _) hon (Nat.le_refl _))
      have HF := hide (show ch B64 i (sb (B64 ^ i) (val B64 (L.take i)) (val B64 (M.take i))) (List.replicate i 0) = fix B64 i (val B64 l - val B64 m) ∧ val B64 l - val B64 m < B64 ^ i by
        have h1 := val_lt okL
        rw [HP.out, HA.out] at h1
        rw [ch_full' (by simp), vt_full L (by rw [HP.out]; exact Nat.le_refl _), vt_full M (by rw [HQ.out]; exact HL.out), HA.out, HB.out]
        have := Hle.out
        unfold sb bo
        rw [if_neg (by omega), Nat.zero_mul, Nat.add_zero]
        exact ⟨rfl, by omega⟩)
      rw [HF.out.1] at hblk
      have hrd : Rd wr .u64 (some ⟨w2.heap.size, 0, none⟩) (fix B64 i (val B64 l - val B64 m)) := fun _ => ⟨_, _, rfl, hblk.row0⟩
      have htr := trim_any _ i _ _ hrd (by rw [fix_length]; exact Nat.le_refl _) (by rw [fix_length]; unfold lim; omega) (fix_ok B64_pos _ _)
      rw [fix_length, val_fix_of_lt HF.out.2] at htr
      have Htr := hide htr
      clear htr hmk hblk hon hrd
      go_wp2_with fail
      refine Htr.out.mono ?_
      rintro e w3 ⟨A3, c3, rfl, hc3, hr3, hb3⟩
      go_wp2_with fail
      go_ret
      exact retsl_mk (below_next hbw hb3) rfl hc3 hr3
end Go.Proofs.Ytincemkjdgbnnaa

set_option linter.unusedVariables false
set_option linter.unusedSimpArgs false
namespace Go.Proofs.Ytincemkjdgbnnaa
open Go.RowKit Lm

/-- a digit of a shifted number. -/
theorem shl_digit {v i s : Nat} (hs : s < 64) : v * 2 ^ s / B64 ^ (i + 1) % B64 = ((v / B64 ^ (i + 1) % B64) * 2 ^ s % B64) ||| (v / B64 ^ i % B64 / 2 ^ (64 - s)) := by
  have hP : 0 < B64 ^ i := Nat.pow_pos (by decide)
  have hsp : 0 < 2 ^ s := Nat.pow_pos (by omega)
  have hB : B64 = 2 ^ s * 2 ^ (64 - s) := by rw [← Nat.pow_add]; unfold B64; congr 1; omega
  generalize hS : 2 ^ s = S at *
  generalize hC : 2 ^ (64 - s) = C at *
  have hCp : 0 < C := by rw [← hC]; exact Nat.pow_pos (by omega)
  generalize hP2 : B64 ^ i = P at *
  rw [Nat.pow_succ, hP2]
  have hv := Nat.div_add_mod v P
  have hr := Nat.mod_lt v hP
  rw [← Nat.div_div_eq_div_mul v P B64, ← Nat.div_div_eq_div_mul (v * S) P B64]
  generalize v / P = t at *
  generalize v % P = r at *
  have h1 : v * S / P = t * S + r * S / P := by
    rw [← hv, Nat.add_mul, Nat.mul_assoc, Nat.mul_add_div hP]
  have h2 : r * S / P < S := by rw [Nat.div_lt_iff_lt_mul hP, Nat.mul_comm S]; exact Nat.mul_lt_mul_of_pos_right hr hsp
  have h3 : v * S / P / B64 = t / C := by
    rw [h1, hB, ← Nat.div_div_eq_div_mul, Nat.mul_comm t S, Nat.mul_add_div hsp, Nat.div_eq_of_lt h2, Nat.add_zero]
  rw [h3]
  have ht := Nat.div_add_mod t B64
  have hf := Nat.mod_lt t (show 0 < B64 by decide)
  generalize t / B64 = q at *
  generalize t % B64 = f at *
  have h4 : t / C = q * S + f / C := by
    rw [← ht, hB, show S * C * q + f = C * (q * S) + f by rw [Nat.mul_comm S C, Nat.mul_assoc, Nat.mul_comm S q], Nat.mul_add_div hCp]
  have h5 : f / C < S := by rw [Nat.div_lt_iff_lt_mul hCp, ← hB]; exact hf
  have h6 : q * S % B64 = S * (q % C) := by rw [hB, Nat.mul_comm q S, Nat.mul_mod_mul_left]
  have h7 : q % B64 * S % B64 = S * (q % C) := by
    rw [Nat.mul_comm _ S, hB, Nat.mul_mod_mul_left, Nat.mod_mul_left_mod]
  have h8 : S * (q % C) + f / C < B64 := by
    have : q % C < C := Nat.mod_lt _ hCp
    have : S * (q % C) + S ≤ S * C := by rw [← Nat.mul_succ]; exact Nat.mul_le_mul_left _ this
    rw [hB]; omega
  have h9 : f / C < B64 := by omega
  rw [h4, Nat.add_mod, h6, Nat.mod_eq_of_lt h9, Nat.mod_eq_of_lt h8, h7]
  rw [← hS] at h5 ⊢
  exact (Nat.two_pow_add_eq_or_of_lt h5 (q % C))

theorem shl_digit0 {v s : Nat} : v * 2 ^ s / B64 ^ 0 % B64 = (v / B64 ^ 0 % B64) * 2 ^ s % B64 := by
  simp [Nat.mod_mul_mod]

/-- the places from n on are those of F', the others those of F. -/
def up (n : Nat) (F G : List Nat) : List Nat := F.take n ++ G.drop n
theorem up_full {F G : List Nat} (h : F.length = G.length) : up F.length F G = F := by rw [up, List.take_of_length_le (Nat.le_refl _), List.drop_of_length_le (by omega), List.append_nil]
theorem up_zero (F G : List Nat) : up 0 F G = G := by simp [up]
theorem up_length {n : Nat} {F G : List Nat} (h : F.length = G.length) : (up n F G).length = F.length := by simp [up]; omega
theorem nth_up_lt {n i : Nat} {F G : List Nat} (hi : i < n) (hF : i < F.length) : nth (up n F G) i = nth F i := by
  rw [up, nth_append_left (by rw [List.length_take]; omega), nth_take hi]
theorem up_set {n : Nat} {F G : List Nat} (h : F.length = G.length) (hn : n < F.length) : (up (n + 1) F G).set n (nth G n) = up n F G := by
  apply List.ext_getElem
  · simp [up]; omega
  · intro j h1 h2
    have hj : j < F.length := by rw [up_length h] at h2; exact h2
    have e1 := nth_of_lt h1
    have e2 := nth_of_lt h2
    rw [← e1, ← e2]
    by_cases e : n = j
    · subst e
      rw [nth_set_self (by rw [up_length h]; exact hn)]
      rw [up, nth_append_right (by rw [List.length_take]; omega), List.length_take, nth_drop]
      congr 1; omega
    · rw [nth_set_ne e]
      rcases Nat.lt_or_ge j n with hlt | hge
      · rw [nth_up_lt (by omega) hj, nth_up_lt hlt hj]
      · rw [up, up, nth_append_right (by rw [List.length_take]; omega), nth_append_right (by rw [List.length_take]; omega), List.length_take, List.length_take, nth_drop, nth_drop]
        congr 1; omega

theorem nth_fix {k n i : Nat} (h : i < k) : nth (fix B64 k n) i = n / B64 ^ i % B64 := by
  rw [nth_of_lt (by rw [fix_length]; exact h), fix_getElem]

theorem pad_fix {l : List Nat} (hok : Ok B64 l) {n : Nat} (h : l.length ≤ n) : l ++ List.replicate (n - l.length) 0 = fix B64 n (val B64 l) :=
  val_inj (hok.append (Ok.replicate B64_pos _)) (fix_ok B64_pos _ _) (by rw [fix_length, List.length_append, List.length_replicate]; omega)
    (by rw [val_append, val_replicate, val_fix_of_lt (Nat.lt_of_lt_of_le (val_lt hok) (Nat.pow_le_pow_right B64_pos h))]; simp)

/-- a call hands back a slice of a block of its own. -/
def RetBlk (w : World) (t : TypeId) (k : IntKind) (L : List Nat) (e : Ending) (w' : World) : Prop :=
  ∃ b, e = .returned (.slice (some ⟨b, 0, none⟩) L.length L.length) ∧ Blk w' b t k L ∧ w.heap.size ≤ b ∧ Below w.heap.size w w'
theorem retblk_mk {w w' : World} {t : TypeId} {k : IntKind} {L : List Nat} {b n : Nat} (hb : Below w.heap.size w w') (hn : L.length = n) (h : Blk w' b t k L) (hg : w.heap.size ≤ b) :
    RetBlk w t k L (.returned (.slice (some ⟨b, 0, none⟩) n n)) w' := by subst hn; exact ⟨b, rfl, h, hg, hb⟩

set_option maxRecDepth 100000 in
set_option maxHeartbeats 800000 in
theorem shifted_any (A : Option Addr) (c : Nat) (l : List Nat) (s n : Nat) (w : World) (hr : Rd w .u64 A l) (hc : l.length ≤ c) (hok : Ok B64 l)
    (hs : s < 64) (hln : l.length ≤ n) (hn : n ≤ lim) (hn0 : 0 < n) (hfit : val B64 l * 2 ^ s < B64 ^ n) :
    Calls Try.prog 116 #[.slice A l.length c, .int .i64 (s : Int), .int .i64 (n : Int)] w (RetBlk w 22 .u64 (fix B64 n (val B64 l * 2 ^ s))) := by
  have hmk := mk_u64 (n : Int) n rfl hn
  have hn2 := hn
  unfold lim at hn2
  obtain ⟨w1, hcp, hblk, hon⟩ := copy_n (P := Try.prog) (w := w.alloc (nblk .u64 22 (List.replicate n 0))) (dT := 104) (sT := 104) (ty := 3) (off := 0) (dLen := n) (dCap := n) (sCap := c)
    Try.underlying104 (by kernel_rfl) (Blk.new w .u64 22 (List.replicate n 0)) (hr.below ((Below.refl _ _).alloc (Nat.le_refl _) _)) (by simp)
  rw [Nat.min_eq_left hln] at hcp hblk
  rw [List.take_zero, List.nil_append, List.take_of_length_le hln, Nat.zero_add, List.drop_replicate, pad_fix hok hln] at hblk
  have hbw : Below w.heap.size w w1 := Only.below ((Below.refl _ _).alloc (Nat.le_refl _) _) hon (Nat.le_refl _)
  have HF : ∃ F, F = fix B64 n (val B64 l) := ⟨_, rfl⟩
  obtain ⟨F, hF⟩ := HF
  obtain ⟨G, hG⟩ : ∃ G, G = fix B64 n (val B64 l * 2 ^ s) := ⟨_, rfl⟩
  have HF := hide hF
  have HG := hide hG
  have hFl : F.length = n := by rw [hF, fix_length]
  have hGl : G.length = n := by rw [hG, fix_length]
  have hFok : Ok B64 F := by rw [hF]; exact fix_ok B64_pos _ _
  rw [← hF] at hblk
  have hu := up_full (F := F) (G := G) (by rw [hFl, hGl])
  rw [hFl] at hu
  have Hu := hide hu
  have Hbw := hide hbw
  have Hblk := hide hblk
  have HFl := hide hFl
  have HGl := hide hGl
  clear hu hF hG hFl hGl hon hbw hblk hr
  go_enter Try.func116, Try.ntmps116
  go_wp2_with fail
  clear hcp hmk
  rcases Nat.eq_zero_or_pos s with h0 | h0
  · subst h0
    have hG2 := hide (show F = fix B64 n (val B64 l * 2 ^ 0) by rw [HF.out]; simp)
    go_loopw [8] (fun k wr => k = .int .i64 ((n : Int) - 1) ∧ wr = w1) (fun _ _ => 0)
    case atStart => exact ⟨rfl, rfl⟩
    case round =>
      obtain ⟨rfl, rfl⟩ := hrel
      have d0 : decide ((0 : Int) ≤ (n : Int) - 1) = true := by rw [decide_eq_true_iff]; omega
      go_wp2_with fail
      go_ret
      rw [hG2.out] at Hblk
      exact retblk_mk Hbw.out (by rw [fix_length]) Hblk.out (Nat.le_refl _)
  · go_loopw [8] (fun k wr => ∃ m : Nat, m ≤ n ∧ k = .int .i64 ((m : Int) - 1) ∧ Below w.heap.size w wr ∧ Blk wr w.heap.size 22 .u64 (up m F G)) (fun k _ => (intOf k + 1).toNat)
    case atStart => exact ⟨n, Nat.le_refl _, rfl, Hbw.out, by rw [Hu.out]; exact Hblk.out⟩
    case round =>
      obtain ⟨m, hm, rfl, hbw, hblk⟩ := hrel
      have Hbw2 := hide hbw
      have Hblk2 := hide hblk
      clear hbw hblk
      rcases m with _ | m
      · have d0 : decide ((0 : Int) ≤ ((0 : Nat) : Int) - 1) = false := by decide
        rw [up_zero, HG.out] at Hblk2
        go_wp2_with fail
        go_ret
        exact retblk_mk Hbw2.out (by rw [fix_length]) Hblk2.out (Nat.le_refl _)
      · rw [show ((m + 1 : Nat) : Int) - 1 = (m : Int) from by omega]
        have hlen := up_length (n := m + 1) (F := F) (G := G) (by rw [HFl.out, HGl.out])
        have hcell := Hblk2.out.cell (i := m) (by rw [hlen, HFl.out]; omega)
        rw [nth_up_lt (by omega) (by rw [HFl.out]; omega)] at hcell
        have hfr := Hblk2.out.frozen m
        have hx : nth F m < B64 := Ok.getD B64_pos hFok _
        have d0 : decide ((0 : Int) < (s : Int)) = true := by simp; omega
        have e1 : ∀ x : Nat, IntKind.u64.wrap ((x : Int) * 2 ^ s) = ((x * 2 ^ s % B64 : Nat) : Int) := fun x => by
          rw [IntKind.wrap_u64, B64_eq]; simp
        rcases Nat.eq_zero_or_pos m with hm0 | hm0
        · subst hm0
          have HB := hide (show Blk (wr.setCell ⟨w.heap.size, 0, none⟩ (.int .u64 (IntKind.u64.wrap ((nth F 0 : Int) * 2 ^ s)))) w.heap.size 22 .u64 (up 0 F G) by
            have h1 := Hblk2.out.set_ 0 (e1 (nth F 0))
            rw [← up_set (by rw [HFl.out, HGl.out]) (by rw [HFl.out]; exact hn0)]
            have : nth G 0 = nth F 0 * 2 ^ s % B64 := by rw [HG.out, HF.out, nth_fix hn0, nth_fix hn0]; exact shl_digit0
            rw [this]; exact h1)
          clear e1
          go_wp2_with fail
          exact ⟨⟨0, by omega, by rfl, Hbw2.out.setCell (Nat.le_refl _) _, HB.out⟩, by simp [intOf]⟩
        · obtain ⟨m, rfl⟩ : ∃ k, m = k + 1 := ⟨m - 1, by omega⟩
          have HB1 := hide (Hblk2.out.set_ (m + 1) (e1 (nth F (m + 1))))
          have HW1 := hide (Hbw2.out.setCell (p := ⟨w.heap.size, m + 1, none⟩) (Nat.le_refl _) (.int .u64 (IntKind.u64.wrap ((nth F (m + 1) : Int) * 2 ^ s))))
          clear e1
          go_wp2_with fail
          have HB1 := HB1.out
          have HW1 := HW1.out
          generalize wr.setCell ⟨w.heap.size, m + 1, none⟩ (.int .u64 (IntKind.u64.wrap ((nth F (m + 1) : Int) * 2 ^ s))) = w3 at *
          have hcell1 := HB1.cell (i := m + 1) (by rw [List.length_set, hlen, HFl.out]; omega)
          rw [nth_set_self (by rw [hlen, HFl.out]; omega)] at hcell1
          have hcell2 := HB1.cell (i := m) (by rw [List.length_set, hlen, HFl.out]; omega)
          rw [nth_set_ne (by omega), nth_up_lt (by omega) (by rw [HFl.out]; omega)] at hcell2
          have hfr1 := HB1.frozen (m + 1)
          have hd : nth G (m + 1) = nth F (m + 1) * 2 ^ s % B64 ||| nth F m / 2 ^ (64 - s) := by
            rw [HG.out, HF.out, nth_fix (by omega), nth_fix (by omega), nth_fix (by omega)]
            exact shl_digit hs
          obtain ⟨u, hu⟩ : ∃ u, u = 64 - s := ⟨_, rfl⟩
          have hu' : (64 : Int) - (s : Int) = (u : Int) := by omega
          rw [← hu] at hd
          have HU := hide hu
          clear hu
          have Hd := hide hd
          have HB2 := hide HB1
          have HW2 := hide HW1
          have hy : nth F m < B64 := Ok.getD B64_pos hFok _
          clear hd HB1 HW1 hcell hfr Hblk2 Hbw2
          have Hlen := hide hlen
          clear hlen
          have hx1 : nth F (m + 1) * 2 ^ s % B64 < B64 := Nat.mod_lt _ B64_pos
          generalize nth F (m + 1) * 2 ^ s % B64 = x1 at *
          generalize nth F m = y at *
          have iw := wrap_in (u : Int) (by omega) (by have := HU.out; omega)
          have iw1 := wrap_in (m : Int) (by omega) (by omega)
          have iw2 : IntKind.i64.wrap ((m : Int) + 1 - 1) = (m : Int) := by rw [wrap_in] <;> omega
          go_region
          go_wp2_with fail
          have hE : bits .or .u64 (x1 : Int) ((y : Int) / 2 ^ u) = ((x1 ||| y / 2 ^ u : Nat) : Int) := by
            rw [← or_u64 hx1 (Nat.lt_of_le_of_lt (Nat.div_le_self _ _) hy)]; simp
          have HB3 := Blk.drew (HB2.out.set_ (m + 1) hE)
          rw [List.set_set, ← Hd.out, up_set (by rw [HFl.out, HGl.out]) (by rw [HFl.out]; omega)] at HB3
          exact ⟨⟨m + 1, by omega, by simp, below_drew (HW2.out.setCell (Nat.le_refl _) _), HB3⟩, by simp [intOf]; omega⟩
end Go.Proofs.Ytincemkjdgbnnaa
