/- Plain number theory: prime numbers, Fermat's little theorem, Pocklington's criterion. No program in sight. -/
namespace Go.Proofs.Ytincemkjdgbnnaa.NT

def Prime (p : Nat) : Prop := 1 < p ∧ ∀ m, m ∣ p → m = 1 ∨ m = p

theorem Prime.pos {p : Nat} (h : Prime p) : 0 < p := by have := h.1; omega

theorem exists_prime_dvd : ∀ (n : Nat), 1 < n → ∃ q, Prime q ∧ q ∣ n := by
  intro n
  induction n using Nat.strongRecOn with
  | ind n ih =>
    intro hn
    by_cases h : ∀ m, m ∣ n → m = 1 ∨ m = n
    · exact ⟨n, ⟨hn, h⟩, Nat.dvd_refl n⟩
    · obtain ⟨m, hm⟩ := Classical.not_forall.1 h
      obtain ⟨hd, hne⟩ := Classical.not_imp.1 hm
      have h1 : m ≠ 1 := fun e => hne (.inl e)
      have h2 : m ≠ n := fun e => hne (.inr e)
      have hle : m ≤ n := Nat.le_of_dvd (by omega) hd
      have h0 : m ≠ 0 := by rintro rfl; simp at hd; omega
      obtain ⟨q, hq, hqd⟩ := ih m (by omega) (by omega)
      exact ⟨q, hq, Nat.dvd_trans hqd hd⟩

theorem Prime.coprime_of_not_dvd {p a : Nat} (hp : Prime p) (h : ¬ p ∣ a) : Nat.Coprime p a := by
  rcases hp.2 (Nat.gcd p a) (Nat.gcd_dvd_left p a) with h1 | h1
  · exact h1
  · exact absurd (h1 ▸ Nat.gcd_dvd_right p a) h

theorem Prime.dvd_mul {p a b : Nat} (hp : Prime p) (h : p ∣ a * b) : p ∣ a ∨ p ∣ b := by
  by_cases ha : p ∣ a
  · exact .inl ha
  · exact .inr ((hp.coprime_of_not_dvd ha).dvd_of_dvd_mul_left h)

theorem Prime.dvd_pow {p a : Nat} (hp : Prime p) : ∀ {n : Nat}, p ∣ a ^ n → p ∣ a
  | 0, h => by
    have := hp.1
    rw [Nat.pow_zero] at h
    have := Nat.le_of_dvd (by omega) h
    omega
  | n + 1, h => by
    rw [Nat.pow_succ] at h
    rcases hp.dvd_mul h with h | h
    · exact hp.dvd_pow h
    · exact h

/-! ### permutations of a list without doubles -/

theorem perm_of_nodup_subset {α : Type} : ∀ (l l' : List α), l.Nodup → (∀ x, x ∈ l → x ∈ l') → l'.length ≤ l.length → l.Perm l' := by
  intro l
  induction l with
  | nil =>
    intro l' _ _ hl
    have : l' = [] := List.length_eq_zero_iff.1 (by simpa using hl)
    subst this; exact List.Perm.refl _
  | cons x l ih =>
    intro l' hnd hsub hlen
    have hx : x ∈ l' := hsub x List.mem_cons_self
    obtain ⟨s, t, rfl⟩ := List.append_of_mem hx
    have hnd' := List.nodup_cons.1 hnd
    have : l.Perm (s ++ t) := by
      refine ih (s ++ t) hnd'.2 ?_ ?_
      · intro y hy
        have := hsub y (List.mem_cons_of_mem x hy)
        have hne : y ≠ x := fun e => hnd'.1 (e ▸ hy)
        simp only [List.mem_append, List.mem_cons] at this ⊢
        rcases this with h | h | h
        · exact .inl h
        · exact absurd h hne
        · exact .inr h
      · simp only [List.length_append, List.length_cons] at hlen ⊢; omega
    exact (this.cons x).trans (List.perm_middle.symm)

def prod : List Nat → Nat
  | [] => 1
  | x :: l => x * prod l

theorem prod_perm {l l' : List Nat} (h : l.Perm l') : prod l = prod l' := by
  induction h with
  | nil => rfl
  | cons x _ ih => simp [prod, ih]
  | swap x y l => simp only [prod]; rw [← Nat.mul_assoc, ← Nat.mul_assoc, Nat.mul_comm y x]
  | trans _ _ ih1 ih2 => exact ih1.trans ih2

theorem prod_map_mul_mod (a p : Nat) : ∀ l : List Nat, prod (l.map fun x => a * x % p) % p = a ^ l.length * prod l % p
  | [] => by simp [prod]
  | x :: l => by
    simp only [List.map_cons, prod, List.length_cons]
    rw [Nat.mul_mod, prod_map_mul_mod a p l, Nat.mod_mod, ← Nat.mul_mod, Nat.pow_succ]
    congr 1
    simp only [Nat.mul_assoc, Nat.mul_left_comm, Nat.mul_comm]

theorem prime_not_dvd_prod {p : Nat} (hp : Prime p) : ∀ l : List Nat, (∀ x, x ∈ l → ¬ p ∣ x) → ¬ p ∣ prod l
  | [], _, h => by
    have := Nat.le_of_dvd (by simp [prod]) h
    have := hp.1
    simp [prod] at *; omega
  | x :: l, hx, h => by
    rcases hp.dvd_mul h with h | h
    · exact hx x List.mem_cons_self h
    · exact prime_not_dvd_prod hp l (fun y hy => hx y (List.mem_cons_of_mem x hy)) h

theorem mod_eq_of_dvd_sub {a b p : Nat} (h : a ≤ b) (hd : p ∣ b - a) : a % p = b % p := by
  obtain ⟨k, hk⟩ := hd
  have : b = a + p * k := by omega
  rw [this, Nat.add_mul_mod_self_left]

theorem dvd_sub_of_mod_eq {a b p : Nat} (h : a % p = b % p) : p ∣ b - a := by
  by_cases hab : a ≤ b
  · have h1 := Nat.div_add_mod a p
    have h2 := Nat.div_add_mod b p
    refine ⟨b / p - a / p, ?_⟩
    rw [Nat.mul_sub]
    omega
  · rw [Nat.sub_eq_zero_of_le (by omega)]; exact Nat.dvd_zero p

theorem mul_cancel_mod {p a x y : Nat} (hp : Prime p) (ha : ¬ p ∣ a) (h : a * x % p = a * y % p) : x % p = y % p := by
  have key : ∀ x y : Nat, x ≤ y → a * x % p = a * y % p → x % p = y % p := by
    intro x y hle h
    have hd := dvd_sub_of_mod_eq h
    rw [← Nat.mul_sub] at hd
    rcases hp.dvd_mul hd with h | h
    · exact absurd h ha
    · exact mod_eq_of_dvd_sub hle h
  rcases Nat.le_total x y with hle | hle
  · exact key x y hle h
  · exact (key y x hle h.symm).symm

theorem nodup_map_of_inj {l : List Nat} {f : Nat → Nat} (hl : l.Nodup) (hf : ∀ x, x ∈ l → ∀ y, y ∈ l → f x = f y → x = y) : (l.map f).Nodup := by
  induction l with
  | nil => simp
  | cons a l ih =>
    rw [List.nodup_cons] at hl
    rw [List.map_cons, List.nodup_cons]
    refine ⟨?_, ih hl.2 fun x hx y hy => hf x (List.mem_cons_of_mem a hx) y (List.mem_cons_of_mem a hy)⟩
    intro hm
    obtain ⟨x, hx, he⟩ := List.mem_map.1 hm
    have := hf x (List.mem_cons_of_mem a hx) a List.mem_cons_self he
    exact hl.1 (this ▸ hx)

theorem fermat {p a : Nat} (hp : Prime p) (ha : ¬ p ∣ a) : a ^ (p - 1) % p = 1 % p := by
  have h1 := hp.1
  let l := List.range' 1 (p - 1)
  have hmem : ∀ x, x ∈ l ↔ 1 ≤ x ∧ x < p := by
    intro x
    show x ∈ List.range' 1 (p - 1) ↔ _
    rw [List.mem_range'_1]; omega
  have hlen : l.length = p - 1 := List.length_range'
  have hnd : l.Nodup := List.nodup_range'
  have hndv : ∀ x, x ∈ l → ¬ p ∣ x := by
    intro x hx hd
    have := (hmem x).1 hx
    have := Nat.le_of_dvd (by omega) hd
    omega
  have hperm : (l.map fun x => a * x % p).Perm l := by
    refine perm_of_nodup_subset _ _ (nodup_map_of_inj hnd ?_) ?_ (by simp)
    · intro x hx y hy he
      have hx' := (hmem x).1 hx
      have hy' := (hmem y).1 hy
      have := mul_cancel_mod hp ha he
      rwa [Nat.mod_eq_of_lt hx'.2, Nat.mod_eq_of_lt hy'.2] at this
    · intro y hy
      obtain ⟨x, hx, rfl⟩ := List.mem_map.1 hy
      refine (hmem _).2 ⟨?_, Nat.mod_lt _ hp.pos⟩
      have : ¬ p ∣ a * x := fun h => (hp.dvd_mul h).elim ha (hndv x hx)
      have : a * x % p ≠ 0 := fun h => this (Nat.dvd_of_mod_eq_zero h)
      omega
  have e1 := prod_map_mul_mod a p l
  rw [prod_perm hperm, hlen] at e1
  have e2 : prod l * a ^ (p - 1) % p = prod l * 1 % p := by rw [Nat.mul_comm, ← e1, Nat.mul_one]
  exact mul_cancel_mod hp (prime_not_dvd_prod hp l hndv) e2

theorem fermat_all {p : Nat} (hp : Prime p) (a : Nat) : a ^ p % p = a % p := by
  by_cases ha : p ∣ a
  · have h0 : a % p = 0 := Nat.mod_eq_zero_of_dvd ha
    have := hp.1
    rw [Nat.pow_mod, h0, Nat.zero_pow (by omega), Nat.zero_mod]
  · have h := fermat hp ha
    have h1 := hp.1
    have : a ^ p = a ^ (p - 1) * a := by rw [← Nat.pow_succ]; congr 1; omega
    rw [this, Nat.mul_mod, h, ← Nat.mul_mod, Nat.one_mul]

/-! ### Pocklington -/

theorem pow_mod_one {b r : Nat} (h : b % r = 1 % r) (k : Nat) : b ^ k % r = 1 % r := by
  rw [Nat.pow_mod, h, ← Nat.pow_mod, Nat.one_pow]

theorem pow_gcd_mod {b r : Nat} : ∀ (m n : Nat), b ^ m % r = 1 % r → b ^ n % r = 1 % r → b ^ (Nat.gcd m n) % r = 1 % r := by
  intro m
  induction m using Nat.strongRecOn with
  | ind m ih =>
    intro n hm hn
    by_cases h0 : m = 0
    · subst h0; simpa using hn
    · rw [Nat.gcd_rec]
      refine ih (n % m) (Nat.mod_lt _ (by omega)) m ?_ hm
      have e : b ^ n = (b ^ m) ^ (n / m) * b ^ (n % m) := by
        rw [← Nat.pow_mul, ← Nat.pow_add, Nat.div_add_mod]
      have : b ^ n % r = b ^ (n % m) % r := by
        rw [e, Nat.mul_mod, pow_mod_one hm, ← Nat.mul_mod, Nat.one_mul]
      rw [← this]; exact hn

theorem dvd_prime_pow_pred {q g e : Nat} (hq : Prime q) (hg : g ∣ q ^ (e + 1)) (hne : g ≠ q ^ (e + 1)) : g ∣ q ^ e := by
  obtain ⟨h, hh⟩ := hg
  have hq0 := hq.pos
  have hpos : 0 < q ^ (e + 1) := Nat.pow_pos hq0
  have h1 : h ≠ 1 := by rintro rfl; exact hne (by rw [hh, Nat.mul_one])
  have h0 : h ≠ 0 := by rintro rfl; rw [Nat.mul_zero] at hh; omega
  obtain ⟨s, hs, hsd⟩ := exists_prime_dvd h (by omega)
  have hsq : s ∣ q ^ (e + 1) := hh ▸ Nat.dvd_trans hsd (Nat.dvd_mul_left h g)
  have : s ∣ q := hs.dvd_pow hsq
  have hs1 := hs.1
  rcases hq.2 s this with h2 | h2
  · omega
  · subst h2
    obtain ⟨t, rfl⟩ := hsd
    refine ⟨t, ?_⟩
    have : s * s ^ e = s * (g * t) := by rw [← Nat.pow_succ', hh]; simp only [Nat.mul_left_comm]
    exact Nat.eq_of_mul_eq_mul_left hq0 this

/-- One prime power of N - 1, and its witness. -/
theorem pock_one {N r q e a c : Nat} (hq : Prime q) (hr : Prime r) (hrN : r ∣ N) (hN : N - 1 = q ^ (e + 1) * c)
    (h1 : a ^ (N - 1) % N = 1 % N) (hg : Nat.gcd (a ^ (q ^ e * c) % N + N - 1) N = 1) (hN1 : 1 < N) : q ^ (e + 1) ∣ r - 1 := by
  have hr1 := hr.1
  have hmodr : ∀ x, x % N % r = x % r := fun x => Nat.mod_mod_of_dvd x hrN
  have h1r : a ^ (N - 1) % r = 1 % r := by rw [← hmodr, h1, hmodr]
  -- b = a ^ c
  have hb1 : (a ^ c) ^ (q ^ (e + 1)) % r = 1 % r := by rw [← Nat.pow_mul, Nat.mul_comm c, ← hN]; exact h1r
  have hra : ¬ r ∣ a := by
    intro hd
    have : r ∣ a ^ (N - 1) := by
      refine Nat.dvd_trans hd ?_
      have : N - 1 = (N - 2) + 1 := by omega
      rw [this, Nat.pow_succ]; exact Nat.dvd_mul_left _ _
    rw [Nat.mod_eq_zero_of_dvd this, Nat.mod_eq_of_lt hr1] at h1r
    omega
  have hrac : ¬ r ∣ a ^ c := fun h => hra (hr.dvd_pow h)
  have hb2 := fermat hr hrac
  have hg2 := pow_gcd_mod _ _ hb1 hb2
  by_cases hgq : Nat.gcd (q ^ (e + 1)) (r - 1) = q ^ (e + 1)
  · rw [← hgq]; exact Nat.gcd_dvd_right _ _
  · exfalso
    obtain ⟨t, ht⟩ := dvd_prime_pow_pred hq (Nat.gcd_dvd_left (q ^ (e + 1)) (r - 1)) hgq
    have hb3 : (a ^ c) ^ (q ^ e) % r = 1 % r := by rw [ht, Nat.pow_mul]; exact pow_mod_one hg2 t
    rw [← Nat.pow_mul, Nat.mul_comm c] at hb3
    have hd : r ∣ a ^ (q ^ e * c) % N + N - 1 := by
      have hx : a ^ (q ^ e * c) % N % r = 1 := by rw [hmodr, hb3, Nat.mod_eq_of_lt hr1]
      have hdv := Nat.div_add_mod (a ^ (q ^ e * c) % N) r
      obtain ⟨k, hk⟩ := hrN
      refine ⟨a ^ (q ^ e * c) % N / r + k, ?_⟩
      rw [Nat.mul_add, ← hk]
      omega
    have := Nat.dvd_gcd hd hrN
    rw [hg] at this
    have := Nat.le_of_dvd (by omega) this
    omega

theorem prime_of_all {N F : Nat} (hN1 : 1 < N) (hF : N < F * F) (h : ∀ r, Prime r → r ∣ N → F ∣ r - 1) : Prime N := by
  -- every prime divisor is above F
  have hbig : ∀ r, Prime r → r ∣ N → F < r := by
    intro r hr hd
    have := hr.1
    have := Nat.le_of_dvd (by omega) (h r hr hd)
    omega
  obtain ⟨r, hr, m, hm⟩ := exists_prime_dvd N hN1
  by_cases h1 : m = 1
  · subst h1; rw [Nat.mul_one] at hm; exact hm ▸ hr
  · exfalso
    have h0 : m ≠ 0 := by rintro rfl; rw [Nat.mul_zero] at hm; omega
    obtain ⟨s, hs, t, ht⟩ := exists_prime_dvd m (by omega)
    have hr2 := hbig r hr ⟨m, hm⟩
    have hs2 := hbig s hs ⟨r * t, by rw [hm, ht]; simp only [Nat.mul_left_comm]⟩
    have ht0 : t ≠ 0 := by rintro rfl; rw [Nat.mul_zero] at ht; omega
    have : F * F ≤ r * s := Nat.mul_le_mul (by omega) (by omega)
    have : r * s ≤ N := by
      rw [hm, ht]
      calc r * s = r * s * 1 := by rw [Nat.mul_one]
        _ ≤ r * s * t := Nat.mul_le_mul_left _ (by omega)
        _ = r * (s * t) := Nat.mul_assoc _ _ _
    omega

theorem dvd_of_coprime_dvd {a b n : Nat} (hc : Nat.gcd a b = 1) (ha : a ∣ n) (hb : b ∣ n) : a * b ∣ n :=
  Nat.Coprime.mul_dvd_of_dvd_of_dvd hc ha hb

/-- a ^ e modulo n, by squaring; fuel: more than the bits of e. -/
def pm (n : Nat) : Nat → Nat → Nat → Nat → Nat
  | 0, _, _, acc => acc
  | k + 1, a, e, acc => pm n k (a * a % n) (e / 2) (if e % 2 = 1 then acc * a % n else acc)

theorem pm_eq (n : Nat) : ∀ (k a e acc : Nat), e < 2 ^ k → pm n k a e acc % n = acc * a ^ e % n := by
  intro k
  induction k with
  | zero => intro a e acc h; have : e = 0 := by simpa using h
            subst this; simp [pm]
  | succ k ih =>
    intro a e acc h
    have h2 : e / 2 < 2 ^ k := by rw [Nat.pow_succ] at h; omega
    simp only [pm]
    rw [ih _ _ _ h2]
    have hpow : (a * a % n) ^ (e / 2) % n = (a * a) ^ (e / 2) % n := by rw [← Nat.pow_mod]
    have haa : (a * a) ^ (e / 2) = a ^ (2 * (e / 2)) := by rw [Nat.pow_mul, Nat.pow_two]
    by_cases ho : e % 2 = 1
    · rw [if_pos ho, Nat.mul_mod, hpow, Nat.mod_mod, ← Nat.mul_mod, haa, Nat.mul_assoc, ← Nat.pow_succ']
      congr 3; omega
    · rw [if_neg ho, Nat.mul_mod, hpow, ← Nat.mul_mod, haa]
      congr 3; omega

theorem pow_eq_of_pm {n k a e v : Nat} (hk : e < 2 ^ k) (h : pm n k a e 1 % n = v) : a ^ e % n = v := by
  rw [← h, pm_eq n k a e 1 hk, Nat.one_mul]

/-- 'a to the e is v modulo n', behind a name. -/
def IsPow (a e n v : Nat) : Prop := a ^ e % n = v

theorem isPow_of_pm {n k a e v : Nat} (hk : e < 2 ^ k) (h : pm n k a e 1 % n = v) : IsPow a e n v := pow_eq_of_pm hk h

theorem pock_one' {N r q e a c w : Nat} (hq : Prime q) (hr : Prime r) (hrN : r ∣ N) (hN : N - 1 = q ^ (e + 1) * c)
    (h1 : IsPow a (N - 1) N 1) (hw : IsPow a (q ^ e * c) N w) (hg : Nat.gcd (w + N - 1) N = 1) (hN1 : 1 < N) : q ^ (e + 1) ∣ r - 1 :=
  pock_one hq hr hrN hN (by rw [Nat.mod_eq_of_lt hN1]; exact h1) (by rw [hw]; exact hg) hN1

/-- small primes, by trial division. -/
def noDiv (n : Nat) : Nat → Nat → Bool
  | 0, _ => true
  | k + 1, d => if n < d * d then true else if n % d = 0 then false else noDiv n k (d + 1)

theorem noDiv_spec (n : Nat) : ∀ (k d : Nat), noDiv n k d = true → n < (d + k) * (d + k) → ∀ m, d ≤ m → m * m ≤ n → ¬ m ∣ n := by
  intro k
  induction k with
  | zero =>
    intro d _ hlt m hm hmm
    have : d * d ≤ m * m := Nat.mul_le_mul hm hm
    simp at hlt; omega
  | succ k ih =>
    intro d h hlt m hm hmm hd
    simp only [noDiv] at h
    split at h
    · have : d * d ≤ m * m := Nat.mul_le_mul hm hm
      omega
    · split at h
      · cases h
      · rename_i h1 h2
        by_cases e : m = d
        · subst e; exact h2 (Nat.mod_eq_zero_of_dvd hd)
        · exact ih (d + 1) h (by rw [show d + 1 + k = d + (k + 1) by omega]; exact hlt) m (by omega) hmm hd

theorem prime_of_noDiv {n k : Nat} (h1 : 1 < n) (h : noDiv n k 2 = true) (hlt : n < (2 + k) * (2 + k)) : Prime n := by
  refine ⟨h1, fun m hd => ?_⟩
  obtain ⟨t, ht⟩ := hd
  have hs := noDiv_spec n k 2 h hlt
  by_cases hm1 : m = 1
  · exact .inl hm1
  · by_cases ht1 : t = 1
    · subst ht1; right; omega
    · exfalso
      have hm0 : m ≠ 0 := by rintro rfl; simp at ht; omega
      have ht0 : t ≠ 0 := by rintro rfl; simp at ht; omega
      rcases Nat.le_total m t with hle | hle
      · have : m * m ≤ m * t := Nat.mul_le_mul_left m hle
        exact hs m (by omega) (by omega) ⟨t, ht⟩
      · have : t * t ≤ m * t := Nat.mul_le_mul_right t hle
        exact hs t (by omega) (by omega) ⟨m, by rw [ht, Nat.mul_comm]⟩

end Go.Proofs.Ytincemkjdgbnnaa.NT
