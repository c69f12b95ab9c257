/- Walks: package limb, the functions that only look. -/
import Derived.Test.YtincemkjdgbnnaaMem
import Derived.Test.YtincemkjdgbnnaaLm
import Derived.Test.YtincemkjdgbnnaaShelf
set_option linter.unusedVariables false
set_option linter.unusedSimpArgs false
namespace Go.Proofs.Ytincemkjdgbnnaa
open Go.RowKit Lm

theorem take_trim {l : List Nat} (hok : Lm.Ok B64 l) {n : Nat} (hn : n ≤ l.length) (hz : ∀ i, n ≤ i → i < l.length → nth l i = 0)
    (hl : 0 < n → nth l (n - 1) ≠ 0) : l.take n = Lm.digs B64 (Lm.val B64 l) :=
  Lm.take_eq_digs B64_ge hok hn (fun i hi h => by rw [← nth_of_lt hi]; exact hz i h hi) (fun h0 => by rw [← nth_of_lt]; exact hl h0)

set_option maxHeartbeats 400000 in
theorem trim_any (A : Option Addr) (c : Nat) (l : List Nat) (w : World) (hr : Rd w .u64 A l) (hc : l.length ≤ c) (hlim : l.length ≤ lim) (hok : Lm.Ok B64 l) :
    Calls Try.prog 113 #[.slice A l.length c] w (RetSl w .u64 (Lm.digs B64 (Lm.val B64 l))) := by
  unfold lim at hlim
  generalize hlen : l.length = len at *
  have hlen := hide hlen
  go_enter Try.func113, Try.ntmps113
  go_wp2
  go_loop [3] (fun s => ∃ n : Nat, n ≤ len ∧ s = .int .i64 n ∧ Hid (∀ i, n ≤ i → i < len → nth l i = 0)) (fun s => (intOf s).toNat)
  case atStart => exact ⟨len, Nat.le_refl _, rfl, fun i h1 h2 => by omega⟩
  case round =>
    obtain ⟨n, hn, rfl, hz⟩ := hrel
    by_cases h0 : 0 < n
    · obtain ⟨b, off, rfl, hrow⟩ := hr (by rw [hlen.out]; omega)
      have hcell := hrow (n - 1) (by rw [hlen.out]; omega)
      clear hrow
      by_cases hz0 : nth l (n - 1) = 0
      · have hd : ((nth l (n - 1) : Int) == 0) = true := by simp [hz0]
        go_wp2_with fail
        exact ⟨⟨n - 1, by omega, by rw [show ((n - 1 : Nat) : Int) = (n : Int) - 1 from by omega], fun i h1 h2 => by
          rcases Nat.lt_or_ge i n with h3 | h3
          · rw [show i = n - 1 from by omega]; exact hz0
          · exact hz.out i h3 h2⟩, by simp [intOf]; omega⟩
      · have hd : ((nth l (n - 1) : Int) == 0) = false := by rw [beq_eq_false_iff_ne]; omega
        have hfin := hide (take_trim hok (n := n) (by rw [hlen.out]; omega) (fun i h1 h2 => hz.out i h1 (by rw [← hlen.out]; exact h2)) (fun _ => hz0))
        go_wp2_with fail
        go_ret
        exact retsl_mk (Below.refl _ _) (by rw [← hfin.out, List.length_take, hlen.out]; omega) (Nat.le_refl _) (by rw [← hfin.out]; exact hr.take n)
    · obtain rfl : n = 0 := by omega
      have hfin := hide (take_trim hok (n := 0) (by omega) (fun i h1 h2 => hz.out i h1 (by rw [← hlen.out]; exact h2)) (fun h => absurd h h0))
      go_wp2_with fail
      go_ret
      exact retsl_mk (Below.refl _ _) (by rw [← hfin.out]; simp) (Nat.le_refl _) (by rw [← hfin.out]; exact Rd.nil _ _ _)

theorem bitLenAux_blen : ∀ (f x : Nat), x < 2 ^ f → Lib.bitLenAux f x = blen x := by
  intro f
  induction f with
  | zero => intro x h; have : x = 0 := by simpa using h
            subst this; rfl
  | succ f ih =>
    intro x h
    unfold Lib.bitLenAux
    split
    · rename_i h0; subst h0; rfl
    · rename_i h0
      rw [Nat.pow_succ] at h
      rw [ih _ (by omega), blen_half h0]

theorem bitLen_blen (x : Nat) (h : x < B64) : Lib.bitLen x = blen x := bitLenAux_blen 64 x h

set_option maxHeartbeats 400000 in
theorem len64_any (x : Nat) (w : World) (h : x < B64) : Calls Try.prog 139 #[.int .u64 x] w fun e w' => e = .returned (.int .i64 (blen x : Int)) ∧ w' = w := by
  have h2 := h
  rw [B64_eq] at h2
  refine (Try.bits_Len64 x w (by omega) (by omega)).mono fun e w' he => ?_
  rw [Int.toNat_natCast, bitLen_blen x h] at he
  exact he

theorem lz64_any (x : Nat) (w : World) (h : x < B64) : Calls Try.prog 115 #[.int .u64 x] w fun e w' => e = .returned (.int .i64 (64 - (blen x : Int))) ∧ w' = w := by
  have h2 := h
  rw [B64_eq] at h2
  refine (Try.bits_LeadingZeros64 x w (by omega) (by omega)).mono fun e w' he => ?_
  rw [Int.toNat_natCast, bitLen_blen x h] at he
  exact he

set_option maxHeartbeats 400000 in
theorem bits_any (A : Option Addr) (c : Nat) (l : List Nat) (w : World) (hr : Rd w .u64 A l) (hc : l.length ≤ c) (hlim : l.length ≤ lim) (hok : Lm.Ok B64 l) :
    Calls Try.prog 110 #[.slice A l.length c] w fun e w' => e = .returned (.int .i64 (blen (val B64 l) : Int)) ∧ Below w.heap.size w w' := by
  go_enter Try.func110, Try.ntmps110
  go_wp2_with fail
  refine (trim_any A c l w hr hc hlim hok).mono ?_
  rintro e w1 ⟨A1, c1, rfl, hc1, hr1, hb1⟩
  obtain ⟨v, hv⟩ : ∃ v, v = val B64 l := ⟨_, rfl⟩
  have HV := hide hv
  rw [← hv] at hc1 hr1 ⊢
  clear hv
  have HL : (digs B64 v).length ≤ l.length := by rw [HV.out]; exact digs_length_le B64_ge (val_lt hok)
  unfold lim at hlim
  have HZ := hide (digs_eq_nil B64_ge (n := v))
  have HK := digs_ok B64_ge v
  have HT := fun m => blen_digs (k := 64) (by omega) (v := v) (m := m)
  change ∀ m, (digs B64 v).length = m + 1 → blen v = 64 * m + blen (nth (digs B64 v) m) at HT
  generalize digs B64 v = D at *
  generalize hm : D.length = m at *
  have Hm := hide hm; clear hm
  rcases Nat.eq_zero_or_pos m with h0 | h0
  · subst h0
    have h3 : v = 0 := HZ.out.1 (List.length_eq_zero_iff.1 Hm.out)
    have hfin := hide (show blen (val B64 l) = 0 by rw [← HV.out, h3]; rfl)
    clear h3
    go_wp2_with fail
    go_ret
    exact ⟨ret_int (by rw [hfin.out]; rfl), hb1⟩
  · obtain ⟨b, off, rfl, hrow⟩ := hr1 (by rw [Hm.out]; omega)
    have ht := HT (m - 1) (by omega)
    have hlt : nth D (m - 1) < B64 := Ok.getD (by decide) HK _
    have hcell := hrow (m - 1) (by rw [Hm.out]; omega)
    clear hrow HT
    have hne : ((m : Int) == 0) = false := by rw [beq_eq_false_iff_ne]; omega
    generalize nth D (m - 1) = x at *
    have hq := blen_le_of_lt hlt
    generalize hqq : blen x = q at *
    have hfin := hide (show blen (val B64 l) = 64 * (m - 1) + q by rw [← HV.out, ht])
    have hqq := hide hqq
    clear ht
    go_wp2_with fail
    refine (len64_any x _ hlt).mono ?_
    rintro e w2 ⟨rfl, rfl⟩
    rw [hqq.out]
    go_wp2_with fail
    go_ret
    exact ⟨ret_int (by rw [hfin.out]; omega), hb1⟩

def ordI (x y : Nat) : Int := if x < y then -1 else 1
set_option maxHeartbeats 400000 in
theorem order_any (x y : Nat) (w : World) : Calls Try.prog 114 #[.int .u64 x, .int .u64 y] w fun e w' => e = .returned (.int .i64 (ordI x y)) ∧ w' = w := by
  go_enter Try.func114, Try.ntmps114
  by_cases h : x < y
  all_goals
    go_wp2
    go_ret
    exact ⟨ret_int (by simp [ordI, h]), rfl⟩


theorem bits_and_one (x : Nat) (h : x < B64) : bits .and .u64 (x : Int) 1 = ((x % 2 : Nat) : Int) := by
  rw [B64_eq] at h
  have := bits_and_u64_nat x 1 h (by omega)
  rw [show ((1 : Nat) : Int) = 1 from rfl] at this
  rw [this, Nat.and_one_is_mod]

set_option maxHeartbeats 400000 in
theorem bit_any (A : Option Addr) (c : Nat) (l : List Nat) (i : Nat) (w : World) (hr : Rd w .u64 A l) (hc : l.length ≤ c) (hlim : l.length ≤ lim) (hok : Lm.Ok B64 l) (hi : i ≤ lim) :
    Calls Try.prog 111 #[.slice A l.length c, .int .i64 (i : Int)] w fun e w' => e = .returned (.int .u64 ((val B64 l / 2 ^ i % 2 : Nat) : Int)) ∧ Below w.heap.size w w' := by
  unfold lim at *
  go_enter Try.func111, Try.ntmps111
  have hn : decide ((i : Int) < 0) = false := by simp
  by_cases h : i / 64 < l.length
  · obtain ⟨b, off, rfl, hrow⟩ := hr (by omega)
    have hcell := hrow (i / 64) h
    have hlt : nth l (i / 64) < B64 := Ok.getD (by decide) hok _
    have hfin := hide (bit_val (k := 64) (by omega) hok i)
    change Hid (nth l (i / 64) / 2 ^ (i % 64) % 2 = val (2 ^ 64) l / 2 ^ i % 2) at hfin
    clear hrow
    generalize nth l (i / 64) = x at *
    go_wp2_with fail
    go_ret
    refine ⟨ret_int ?_, Below.refl _ _⟩
    change _ = ((val (2 ^ 64) l / 2 ^ i % 2 : Nat) : Int)
    rw [← hfin.out, ← bits_and_one _ (Nat.lt_of_le_of_lt (Nat.div_le_self _ _) hlt), Int.natCast_ediv, Int.natCast_pow]; rfl
  · have hd : decide ((l.length : Int) ≤ (i : Int) / 64) = true := by rw [decide_eq_true_iff]; omega
    go_wp2_with fail
    go_ret
    refine ⟨ret_int ?_, Below.refl _ _⟩
    change _ = ((val (2 ^ 64) l / 2 ^ i % 2 : Nat) : Int)
    rw [← bit_val (k := 64) (by omega) hok i, List.getD_eq_getElem?_getD, List.getElem?_eq_none (by omega)]
    simp

theorem dlen {l : List Nat} (hok : Ok B64 l) : (digs B64 (val B64 l)).length ≤ l.length := digs_length_le B64_ge (val_lt hok)

/-- what Cmp answers. -/
def cmpI (a b : Nat) : Int := if a < b then -1 else if a = b then 0 else 1

theorem cmp_len {a b : Nat} (h : (digs B64 a).length < (digs B64 b).length) : a < b := by
  rcases Nat.lt_or_ge a b with h1 | h1
  · exact h1
  · have := digs_length_gt (B := B64) B64_ge (n := b) (k := (digs B64 b).length - 1) ?_
    · have h2 := digs_lt B64_ge a
      have h3 : B64 ^ ((digs B64 b).length - 1) ≤ b := by
        rcases Nat.lt_or_ge b (B64 ^ ((digs B64 b).length - 1)) with h4 | h4
        · have := digs_length_le B64_ge h4; omega
        · exact h4
      have h5 := Nat.pow_le_pow_right (n := B64) (by decide) (show (digs B64 a).length ≤ (digs B64 b).length - 1 by omega)
      omega
    · rcases Nat.lt_or_ge b (B64 ^ ((digs B64 b).length - 1)) with h4 | h4
      · have := digs_length_le B64_ge h4; omega
      · exact h4

/-- two numbers of one length, alike from place n + 1 on: the place n decides. -/
theorem cmp_at {L M : List Nat} (hL : Ok B64 L) (hM : Ok B64 M) (hlen : L.length = M.length) {n : Nat} (hn : n < L.length)
    (hz : ∀ i, n < i → i < L.length → nth L i = nth M i) (hlt : nth L n < nth M n) : val B64 L < val B64 M := by
  have h1 := val_take_drop (B := B64) L (n + 1) (by omega)
  have h2 := val_take_drop (B := B64) M (n + 1) (by omega)
  have hd : L.drop (n + 1) = M.drop (n + 1) := by
    apply List.ext_getElem
    · simp [hlen]
    · intro i h3 h4
      simp only [List.length_drop] at h3 h4
      have := hz (n + 1 + i) (by omega) (by omega)
      rw [nth_of_lt (by omega), nth_of_lt (by omega)] at this
      simpa using this
  have t1 := val_take_succ (B := B64) L n (by omega)
  have t2 := val_take_succ (B := B64) M n (by omega)
  have b1 := val_lt (hL.take n)
  rw [List.length_take, Nat.min_eq_left (by omega)] at b1
  rw [← nth_of_lt] at t1 t2
  rw [h1, h2, hd, t1, t2]
  have : B64 ^ n * nth L n + B64 ^ n ≤ B64 ^ n * nth M n := by rw [← Nat.mul_succ]; exact Nat.mul_le_mul_left _ hlt
  omega

set_option maxHeartbeats 400000 in
theorem cmp_any (A A' : Option Addr) (c c' : Nat) (l m : List Nat) (w : World) (hr : Rd w .u64 A l) (hc : l.length ≤ c) (hlim : l.length ≤ lim) (hok : Ok B64 l)
    (hr' : Rd w .u64 A' m) (hc' : m.length ≤ c') (hlim' : m.length ≤ lim) (hok' : Ok B64 m) :
    Calls Try.prog 68 #[.slice A l.length c, .slice A' m.length c'] w fun e w' => e = .returned (.int .i64 (cmpI (val B64 l) (val B64 m))) ∧ Below w.heap.size w w' := by
  go_enter Try.func68, Try.ntmps68
  go_wp2_with fail
  refine (trim_any A c l w hr hc hlim hok).mono ?_
  rintro e w1 ⟨A1, c1, rfl, hc1, hr1, hb1⟩
  go_wp2_with fail
  refine (trim_any A' c' m w1 (hr'.below hb1) hc' hlim' hok').mono ?_
  rintro e w2 ⟨A2, c2, rfl, hc2, hr2, hb2⟩
  have hr1 := hr1.below hb2
  have hb := below_next hb1 hb2
  clear hb1 hb2 hr hr'
  have l1 := dlen hok
  have l2 := dlen hok'
  unfold lim at hlim hlim'
  obtain ⟨a, ha⟩ : ∃ a, a = val B64 l := ⟨_, rfl⟩
  obtain ⟨b, hb'⟩ : ∃ b, b = val B64 m := ⟨_, rfl⟩
  have HA := hide ha
  have HB := hide hb'
  rw [← ha] at hc1 hr1 l1 ⊢
  rw [← hb'] at hc2 hr2 l2 ⊢
  clear ha hb'
  have HC1 := hide (@cmp_len a b)
  have HC2 := hide (@cmp_len b a)
  have hvL := hide (val_digs B64_ge a)
  have hvM := hide (val_digs B64_ge b)
  have okL := digs_ok B64_ge a
  have okM := digs_ok B64_ge b
  generalize digs B64 a = L at *
  generalize digs B64 b = M at *
  generalize hp : L.length = p at *
  generalize hq : M.length = q at *
  have HP := hide hp; clear hp
  have HQ := hide hq; clear hq
  by_cases hpq : p = q
  · subst hpq
    have hne : ((p : Int) != (p : Int)) = false := by simp
    go_wp2_with fail
    go_loopw [5] (fun s wr => ∃ n k : Nat, n ≤ p ∧ s = .int .i64 ((n : Int) - 1) ∧ wr = w2.drewN k ∧ Hid (∀ i, n ≤ i → i < p → nth L i = nth M i)) (fun s _ => (intOf s + 1).toNat)
    case atStart => exact ⟨p, 0, Nat.le_refl _, rfl, rfl, fun i h1 h2 => by omega⟩
    case round =>
      obtain ⟨n, k, hn, rfl, rfl, hz⟩ := hrel
      rcases n with _ | n
      · have hfin := hide (show cmpI (val B64 l) (val B64 m) = 0 by
          have : L = M := List.ext_getElem (by rw [HP.out, HQ.out]) fun i h1 h2 => by
            have := hz.out i (by omega) (by rw [← HP.out]; exact h1)
            rwa [nth_of_lt h1, nth_of_lt h2] at this
          have e : val B64 l = val B64 m := by rw [← HA.out, ← HB.out, ← hvL.out, ← hvM.out, this]
          unfold cmpI; rw [e]; simp)
        have hd : decide ((0 : Int) ≤ ((0 : Nat) : Int) - 1) = false := by decide
        go_wp2_with fail
        go_ret
        exact ⟨ret_int (by rw [hfin.out]), below_drewN hb _⟩
      · rw [show ((n + 1 : Nat) : Int) - 1 = (n : Int) from by omega]
        have i1 : (n : Int) < (p : Int) := by omega
        obtain ⟨b1, off1, rfl, hrow1⟩ := hr1 (by rw [HP.out]; omega)
        obtain ⟨b2, off2, rfl, hrow2⟩ := hr2 (by rw [HQ.out]; omega)
        have hc1 := hrow1 n (by rw [HP.out]; omega)
        have hc2 := hrow2 n (by rw [HQ.out]; omega)
        have hx : nth L n < B64 := Ok.getD (by decide) okL _
        have hy : nth M n < B64 := Ok.getD (by decide) okM _
        have hlt1 := hide (cmp_at okL okM (by rw [HP.out, HQ.out]) (n := n) (by rw [HP.out]; omega) (fun i h1 h2 => hz.out i (by omega) (by rw [← HP.out]; exact h2)))
        have hlt2 := hide (cmp_at okM okL (by rw [HP.out, HQ.out]) (n := n) (by rw [HQ.out]; omega) (fun i h1 h2 => (hz.out i (by omega) (by rw [← HQ.out]; exact h2)).symm))
        have hzz := hide (show nth L n = nth M n → ∀ i, n ≤ i → i < p → nth L i = nth M i from fun e i h1 h2 => by
          rcases Nat.lt_or_ge i (n + 1) with h3 | h3
          · rw [show i = n by omega]; exact e
          · exact hz.out i h3 h2)
        clear hrow1 hrow2
        rw [hvL.out, hvM.out] at hlt1
        rw [hvL.out, hvM.out] at hlt2
        generalize nth L n = x at *
        generalize nth M n = y at *
        by_cases hxy : x = y
        · have hd : ((x : Int) != (y : Int)) = false := by simp [hxy]
          have hxy := hide hxy
          go_wp2_with fail
          go_quiet (fail)
          go_wp2_with fail
          refine ⟨⟨n, _, by omega, ?_, rfl, hzz.out hxy.out⟩, by simp [intOf]⟩
          rfl
        · have hd : ((x : Int) != (y : Int)) = true := by simp; omega
          have hfin := hide (show ordI x y = cmpI (val B64 l) (val B64 m) by
            unfold cmpI ordI
            rw [← HA.out, ← HB.out]
            rcases Nat.lt_or_ge x y with h1 | h1
            · have := hlt1.out h1
              rw [if_pos h1, if_pos this]
            · have := hlt2.out (by omega)
              rw [if_neg (by omega), if_neg (by omega), if_neg (by omega)])
          go_wp2_with fail
          go_quiet (fail)
          go_wp2_with fail
          go_quiet ((go_at_call 114; exact quiet_at (order_any _ _)))
          go_wp2_with fail
          go_ret
          exact ⟨ret_int hfin.out, (by repeat (first | exact hb | refine below_drewN ?_ _))⟩
  · have hd : ((p : Int) != (q : Int)) = true := by simp; omega
    have hfin := hide (show ordI p q = cmpI (val B64 l) (val B64 m) by
      unfold cmpI ordI
      rw [← HA.out, ← HB.out]
      rcases Nat.lt_or_ge p q with h1 | h1
      · have := HC1.out h1
        rw [if_pos h1, if_pos this]
      · have := HC2.out (by omega)
        rw [if_neg (by omega), if_neg (by omega), if_neg (by omega)])
    go_wp2_with fail
    refine (order_any p q _).mono ?_
    rintro e w3 ⟨rfl, rfl⟩
    go_wp2_with fail
    go_ret
    exact ⟨ret_int hfin.out, hb⟩
end Go.Proofs.Ytincemkjdgbnnaa
