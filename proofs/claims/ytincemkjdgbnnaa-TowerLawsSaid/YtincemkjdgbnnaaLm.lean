/- Plain: natural numbers as lists of digits to a base. No program in sight. -/
namespace Go.Proofs.Ytincemkjdgbnnaa.Lm

/-- the bases: digits of 64, of 32, of 8 bits. (Names: the walk would write the numbers out.) -/
def B64 : Nat := 2 ^ 64
def B32 : Nat := 2 ^ 32
theorem B64_eq : B64 = 18446744073709551616 := by decide
theorem B32_eq : B32 = 4294967296 := by decide
theorem B64_ge : 2 ≤ B64 := by decide
theorem B32_ge : 2 ≤ B32 := by decide

def val (B : Nat) : List Nat → Nat
  | [] => 0
  | x :: l => x + B * val B l

/-- k digits of n. -/
def fix (B : Nat) : Nat → Nat → List Nat
  | 0, _ => []
  | k + 1, n => n % B :: fix B k (n / B)

/-- the digits of n, no zeros at the end. -/
def digs (B : Nat) (n : Nat) : List Nat :=
  if _h : n = 0 ∨ B < 2 then [] else n % B :: digs B (n / B)
termination_by n
decreasing_by exact Nat.div_lt_self (by omega) (by omega)

def Ok (B : Nat) (l : List Nat) : Prop := ∀ x, x ∈ l → x < B

section
variable {B : Nat}

theorem Ok.nil : Ok B [] := fun _ h => by cases h
theorem Ok.cons {x : Nat} {l : List Nat} (hx : x < B) (h : Ok B l) : Ok B (x :: l) := fun y hy => by
  rcases List.mem_cons.1 hy with rfl | hy
  · exact hx
  · exact h y hy
theorem Ok.head {x : Nat} {l : List Nat} (h : Ok B (x :: l)) : x < B := h x List.mem_cons_self
theorem Ok.tail {x : Nat} {l : List Nat} (h : Ok B (x :: l)) : Ok B l := fun y hy => h y (List.mem_cons_of_mem x hy)
theorem Ok.append {l m : List Nat} (h : Ok B l) (h' : Ok B m) : Ok B (l ++ m) := fun y hy => by
  rcases List.mem_append.1 hy with hy | hy
  · exact h y hy
  · exact h' y hy
theorem Ok.take {l : List Nat} (h : Ok B l) (n : Nat) : Ok B (l.take n) := fun y hy => h y (List.mem_of_mem_take hy)
theorem Ok.drop {l : List Nat} (h : Ok B l) (n : Nat) : Ok B (l.drop n) := fun y hy => h y (List.mem_of_mem_drop hy)
theorem Ok.get {l : List Nat} (h : Ok B l) {i : Nat} (hi : i < l.length) : l[i] < B := h _ (List.getElem_mem hi)
theorem Ok.getD {l : List Nat} (hB : 0 < B) (h : Ok B l) (i : Nat) : l.getD i 0 < B := by
  by_cases hi : i < l.length
  · rw [List.getD_eq_getElem?_getD, List.getElem?_eq_getElem hi]; exact h.get hi
  · rw [List.getD_eq_getElem?_getD, List.getElem?_eq_none (by omega)]; exact hB
theorem Ok.set {l : List Nat} (h : Ok B l) {i v : Nat} (hv : v < B) : Ok B (l.set i v) := fun y hy => by
  rcases List.mem_or_eq_of_mem_set hy with hy | rfl
  · exact h y hy
  · exact hv
theorem Ok.replicate (hB : 0 < B) (n : Nat) : Ok B (List.replicate n 0) := fun y hy => by
  rw [(List.mem_replicate.1 hy).2]; exact hB

@[simp] theorem val_nil : val B [] = 0 := rfl
@[simp] theorem val_cons (x : Nat) (l : List Nat) : val B (x :: l) = x + B * val B l := rfl

theorem val_append (l m : List Nat) : val B (l ++ m) = val B l + B ^ l.length * val B m := by
  induction l with
  | nil => simp
  | cons x l ih => simp only [List.cons_append, val_cons, ih, List.length_cons, Nat.pow_succ, Nat.mul_add, Nat.mul_assoc, Nat.mul_comm, Nat.add_assoc]

theorem val_lt {l : List Nat} (h : Ok B l) : val B l < B ^ l.length := by
  induction l with
  | nil => simp
  | cons x l ih =>
    have h1 := h.head
    have h2 := ih h.tail
    rw [val_cons, List.length_cons, Nat.pow_succ, Nat.mul_comm (B ^ l.length)]
    have : B * val B l + B ≤ B * B ^ l.length := by rw [← Nat.mul_succ]; exact Nat.mul_le_mul_left B h2
    omega

theorem val_replicate (n : Nat) : val B (List.replicate n 0) = 0 := by
  induction n with
  | zero => rfl
  | succ n ih => rw [List.replicate_succ, val_cons, ih]; simp

theorem val_take_drop (l : List Nat) (n : Nat) (hn : n ≤ l.length) : val B l = val B (l.take n) + B ^ n * val B (l.drop n) := by
  have h := val_append (B := B) (l.take n) (l.drop n)
  rw [List.take_append_drop, List.length_take, Nat.min_eq_left hn] at h
  exact h

theorem val_take_succ (l : List Nat) (i : Nat) (hi : i < l.length) : val B (l.take (i + 1)) = val B (l.take i) + B ^ i * l[i] := by
  rw [List.take_succ_eq_append_getElem hi, val_append, List.length_take, Nat.min_eq_left (by omega)]
  simp

theorem val_set (l : List Nat) (i v : Nat) (hi : i < l.length) : val B (l.set i v) + B ^ i * l[i] = val B l + B ^ i * v := by
  induction l generalizing i with
  | nil => simp at hi
  | cons x l ih =>
    cases i with
    | zero => simp only [List.set_cons_zero, val_cons, List.getElem_cons_zero, Nat.pow_zero, Nat.one_mul]; omega
    | succ i =>
      have := ih i (by simpa using hi)
      simp only [List.set_cons_succ, val_cons, List.getElem_cons_succ, Nat.pow_succ]
      have e1 : B ^ i * B * l[i]'(by simpa using hi) = B * (B ^ i * l[i]'(by simpa using hi)) := by simp only [Nat.mul_assoc, Nat.mul_left_comm]
      have e2 : B ^ i * B * v = B * (B ^ i * v) := by simp only [Nat.mul_assoc, Nat.mul_left_comm]
      rw [e1, e2]
      have := congrArg (B * ·) this
      simp only [Nat.mul_add] at this
      omega

theorem val_inj {l m : List Nat} (hl : Ok B l) (hm : Ok B m) (hlen : l.length = m.length) (h : val B l = val B m) : l = m := by
  induction l generalizing m with
  | nil => cases m with
    | nil => rfl
    | cons y m => simp at hlen
  | cons x l ih =>
    cases m with
    | nil => simp at hlen
    | cons y m =>
      have hx := hl.head
      have hy := hm.head
      simp only [val_cons] at h
      have e1 : x = y := by
        have := congrArg (· % B) h
        simp only [Nat.add_mul_mod_self_left, Nat.mod_eq_of_lt hx, Nat.mod_eq_of_lt hy] at this
        exact this
      subst e1
      have e2 : val B l = val B m := Nat.eq_of_mul_eq_mul_left (by omega) (Nat.add_left_cancel h)
      rw [ih hl.tail hm.tail (by simpa using hlen) e2]

theorem fix_length (k n : Nat) : (fix B k n).length = k := by
  induction k generalizing n with
  | zero => rfl
  | succ k ih => simp [fix, ih]

theorem fix_ok (hB : 0 < B) (k n : Nat) : Ok B (fix B k n) := by
  induction k generalizing n with
  | zero => exact Ok.nil
  | succ k ih => exact Ok.cons (Nat.mod_lt _ hB) (ih _)

theorem val_fix (k n : Nat) : val B (fix B k n) = n % B ^ k := by
  induction k generalizing n with
  | zero => simp [fix, Nat.mod_one]
  | succ k ih =>
    rw [fix, val_cons, ih, Nat.pow_succ, Nat.mul_comm (B ^ k) B, Nat.mod_mul]

theorem val_fix_of_lt {k n : Nat} (h : n < B ^ k) : val B (fix B k n) = n := by rw [val_fix, Nat.mod_eq_of_lt h]

theorem fix_val {l : List Nat} (h : Ok B l) (hB : 0 < B) : fix B l.length (val B l) = l :=
  val_inj (fix_ok hB _ _) h (fix_length _ _) (by rw [val_fix_of_lt (val_lt h)])

theorem fix_val' {l : List Nat} {k : Nat} (h : Ok B l) (hB : 0 < B) (hk : l.length = k) : fix B k (val B l) = l := by
  subst hk; exact fix_val h hB

theorem fix_getElem (k n i : Nat) (hi : i < (fix B k n).length) : (fix B k n)[i] = n / B ^ i % B := by
  induction k generalizing n i with
  | zero => simp [fix] at hi
  | succ k ih =>
    cases i with
    | zero => simp [fix]
    | succ i => simp only [fix, List.getElem_cons_succ]; rw [ih, Nat.pow_succ, Nat.mul_comm, Nat.div_div_eq_div_mul]

theorem digs_zero : digs B 0 = [] := by rw [digs]; simp
theorem digs_pos {n : Nat} (hn : n ≠ 0) (hB : 2 ≤ B) : digs B n = n % B :: digs B (n / B) := by rw [digs, dif_neg (by omega)]

theorem digs_ok (hB : 2 ≤ B) (n : Nat) : Ok B (digs B n) := by
  induction n using Nat.strongRecOn with
  | ind n ih =>
    by_cases h : n = 0
    · subst h; rw [digs_zero]; exact Ok.nil
    · rw [digs_pos h hB]; exact Ok.cons (Nat.mod_lt _ (by omega)) (ih _ (Nat.div_lt_self (by omega) (by omega)))

theorem val_digs (hB : 2 ≤ B) (n : Nat) : val B (digs B n) = n := by
  induction n using Nat.strongRecOn with
  | ind n ih =>
    by_cases h : n = 0
    · subst h; rw [digs_zero]; rfl
    · rw [digs_pos h hB, val_cons, ih _ (Nat.div_lt_self (by omega) (by omega))]; exact Nat.mod_add_div n B

theorem digs_eq_nil (hB : 2 ≤ B) {n : Nat} : digs B n = [] ↔ n = 0 :=
  ⟨fun h => by have := val_digs hB n; rw [h] at this; exact this.symm, fun h => by subst h; exact digs_zero⟩

theorem digs_length_le (hB : 2 ≤ B) {n k : Nat} (h : n < B ^ k) : (digs B n).length ≤ k := by
  induction k generalizing n with
  | zero =>
    have : n = 0 := by simpa using h
    subst this; rw [digs_zero]; exact Nat.le_refl _
  | succ k ih =>
    by_cases h0 : n = 0
    · subst h0; rw [digs_zero]; exact Nat.zero_le _
    · rw [digs_pos h0 hB, List.length_cons]
      have : n / B < B ^ k := by rw [Nat.div_lt_iff_lt_mul (by omega), ← Nat.pow_succ]; exact h
      have := ih this
      omega

theorem digs_lt (hB : 2 ≤ B) (n : Nat) : n < B ^ (digs B n).length := by
  have := val_lt (digs_ok hB n)
  rwa [val_digs hB] at this

theorem digs_length_gt (hB : 2 ≤ B) {n k : Nat} (h : B ^ k ≤ n) : k < (digs B n).length := by
  rcases Nat.lt_or_ge k (digs B n).length with h1 | h1
  · exact h1
  · have := digs_lt hB n
    have := Nat.pow_le_pow_right (n := B) (by omega) h1
    omega

/-- no zeros at the end. -/
def Trimmed (l : List Nat) : Prop := ∀ h : l ≠ [], l.getLast h ≠ 0

theorem digs_trimmed (hB : 2 ≤ B) (n : Nat) : Trimmed (digs B n) := by
  induction n using Nat.strongRecOn with
  | ind n ih =>
    by_cases h : n = 0
    · subst h; rw [digs_zero]; intro h; exact absurd rfl h
    · have hlt := Nat.div_lt_self (n := n) (k := B) (by omega) (by omega)
      rw [digs_pos h hB]
      intro _
      by_cases h2 : n / B = 0
      · simp only [h2, digs_zero, List.getLast_singleton]
        have := Nat.mod_add_div n B
        rw [h2] at this; omega
      · have hne : digs B (n / B) ≠ [] := fun e => h2 ((digs_eq_nil hB).1 e)
        rw [List.getLast_cons hne]
        exact ih _ hlt hne

theorem digs_val (hB : 2 ≤ B) {l : List Nat} (h : Ok B l) (ht : Trimmed l) : digs B (val B l) = l := by
  induction l with
  | nil => exact digs_zero
  | cons x l ih =>
    have hx := h.head
    have htl : Trimmed l := fun hne => by
      have := ht (by simp)
      rwa [List.getLast_cons hne] at this
    have hne : val B (x :: l) ≠ 0 := by
      intro h0
      rw [val_cons] at h0
      have hx0 : x = 0 := by omega
      have hl0 : val B l = 0 := by
        have : B * val B l = 0 := by omega
        rcases Nat.mul_eq_zero.1 this with h | h
        · omega
        · exact h
      have := ih h.tail htl
      rw [hl0, digs_zero] at this
      subst this
      exact ht (by simp) (by simpa using hx0)
    rw [digs_pos hne hB, val_cons, Nat.add_mul_mod_self_left, Nat.mod_eq_of_lt hx, Nat.add_mul_div_left _ _ (by omega), Nat.div_eq_of_lt hx, Nat.zero_add, ih h.tail htl]

/-- what a loop that strikes zeros at the end leaves. -/
theorem take_eq_digs (hB : 2 ≤ B) {l : List Nat} (h : Ok B l) {n : Nat} (hn : n ≤ l.length) (hz : ∀ i (hi : i < l.length), n ≤ i → l[i] = 0)
    (hl : ∀ h0 : 0 < n, l[n - 1] ≠ 0) : l.take n = digs B (val B l) := by
  have hv : val B (l.take n) = val B l := by
    rw [val_take_drop l n hn]
    have : l.drop n = List.replicate (l.length - n) 0 := by
      apply List.ext_getElem
      · simp
      · intro i h1 h2
        rw [List.getElem_drop, List.getElem_replicate]
        exact hz _ _ (by omega)
    rw [this, val_replicate]; simp
  rw [← hv]
  refine (digs_val hB (h.take n) fun hne => ?_).symm
  rw [List.getLast_eq_getElem]
  have hlen : (l.take n).length = n := by rw [List.length_take]; omega
  have hpos : 0 < n := by
    rcases Nat.eq_zero_or_pos n with h0 | h0
    · subst h0; simp at hne
    · exact h0
  simp only [hlen, List.getElem_take]
  exact hl hpos

theorem fix_eq_digs_append (hB : 2 ≤ B) {n k : Nat} (h : n < B ^ k) : fix B k n = digs B n ++ List.replicate (k - (digs B n).length) 0 := by
  have hl := digs_length_le hB h
  refine val_inj (fix_ok (by omega) _ _) ((digs_ok hB n).append (Ok.replicate (by omega) _)) ?_ ?_
  · rw [fix_length, List.length_append, List.length_replicate]; omega
  · rw [val_fix_of_lt h, val_append, val_replicate, val_digs hB]; simp

end
/-- how many bits. -/
def blen (n : Nat) : Nat := if n = 0 then 0 else n.log2 + 1
theorem lt_blen (n : Nat) : n < 2 ^ blen n := by
  unfold blen
  split
  · omega
  · exact Nat.lt_log2_self
theorem blen_le (n : Nat) (h : n ≠ 0) : 2 ^ (blen n - 1) ≤ n := by
  unfold blen
  rw [if_neg h]
  exact Nat.log2_self_le h
theorem blen_zero : blen 0 = 0 := rfl
theorem blen_pos {n : Nat} (h : n ≠ 0) : 0 < blen n := by unfold blen; rw [if_neg h]; omega
theorem blen_le_of_lt {n k : Nat} (h : n < 2 ^ k) : blen n ≤ k := by
  by_cases h0 : n = 0
  · subst h0; rw [blen_zero]; omega
  · rcases Nat.lt_or_ge k (blen n) with h1 | h1
    · have := blen_le n h0
      have := Nat.pow_le_pow_right (n := 2) (by omega) (show k ≤ blen n - 1 by omega)
      omega
    · exact h1
theorem lt_blen_of_le {n k : Nat} (h : 2 ^ k ≤ n) : k < blen n := by
  rcases Nat.lt_or_ge k (blen n) with h1 | h1
  · exact h1
  · have := lt_blen n
    have := Nat.pow_le_pow_right (n := 2) (by omega) h1
    omega
theorem blen_unique {n k : Nat} (hk : 0 < k) (h1 : 2 ^ (k - 1) ≤ n) (h2 : n < 2 ^ k) : blen n = k := by
  have := blen_le_of_lt h2
  have := lt_blen_of_le h1
  omega
theorem blen_shift {x b : Nat} (h : x / 2 ^ b ≠ 0) : blen x = b + blen (x / 2 ^ b) := by
  have h1 := blen_le _ h
  have h2 := lt_blen (x / 2 ^ b)
  have h3 := blen_pos h
  have hp : 0 < 2 ^ b := Nat.pow_pos (by omega)
  refine blen_unique (by omega) ?_ ?_
  · rw [show b + blen (x / 2 ^ b) - 1 = (blen (x / 2 ^ b) - 1) + b by omega, Nat.pow_add]
    exact (Nat.le_div_iff_mul_le hp).1 h1
  · rw [Nat.add_comm, Nat.pow_add]
    exact (Nat.div_lt_iff_lt_mul hp).1 h2

theorem blen_half {x : Nat} (h : x ≠ 0) : blen x = 1 + blen (x / 2) := by
  by_cases h2 : x / 2 = 0
  · have : x = 1 := by omega
    subst this; decide
  · have := blen_shift (x := x) (b := 1) (by simpa using h2)
    simpa using this

theorem getD_val {B : Nat} (hB : 0 < B) {l : List Nat} (h : Ok B l) (j : Nat) : l.getD j 0 = val B l / B ^ j % B := by
  induction l generalizing j with
  | nil => simp
  | cons x l ih =>
    have hx := h.head
    cases j with
    | zero => simp only [List.getD_cons_zero, val_cons, Nat.pow_zero, Nat.div_one, Nat.add_mul_mod_self_left]; rw [Nat.mod_eq_of_lt hx]
    | succ j =>
      simp only [List.getD_cons_succ, val_cons]
      rw [ih h.tail, Nat.pow_succ, Nat.mul_comm (B ^ j), ← Nat.div_div_eq_div_mul, Nat.add_mul_div_left _ _ hB, Nat.div_eq_of_lt hx, Nat.zero_add]

theorem bit_mod {y k r : Nat} (h : r < k) : y % 2 ^ k / 2 ^ r % 2 = y / 2 ^ r % 2 := by
  have h1 := Nat.testBit_mod_two_pow y k r
  simp only [Nat.testBit_eq_decide_div_mod_eq, h, decide_true, Bool.true_and] at h1
  have h2 := decide_eq_decide.1 h1
  omega

theorem bit_val {k : Nat} (hk : 0 < k) {l : List Nat} (h : Ok (2 ^ k) l) (i : Nat) : l.getD (i / k) 0 / 2 ^ (i % k) % 2 = val (2 ^ k) l / 2 ^ i % 2 := by
  rw [getD_val (Nat.pow_pos (by omega)) h, bit_mod (Nat.mod_lt _ hk), ← Nat.pow_mul, Nat.div_div_eq_div_mul, ← Nat.pow_add, Nat.div_add_mod]

theorem digs_top_ne {B : Nat} (hB : 2 ≤ B) {v m : Nat} (hm : (digs B v).length = m + 1) : (digs B v).getD m 0 ≠ 0 := by
  have hl : m < (digs B v).length := by omega
  have h := digs_trimmed hB v (by intro e; rw [e] at hl; simp at hl)
  rw [List.getLast_eq_getElem] at h
  rw [List.getD_eq_getElem?_getD, List.getElem?_eq_getElem hl]
  simpa [hm] using h

theorem blen_digs {k : Nat} (hk : 0 < k) {v m : Nat} (hm : (digs (2 ^ k) v).length = m + 1) : blen v = k * m + blen ((digs (2 ^ k) v).getD m 0) := by
  have hB : 2 ≤ 2 ^ k := by have := Nat.pow_le_pow_right (n := 2) (by omega) (show 1 ≤ k from hk); omega
  have hl : m < (digs (2 ^ k) v).length := by omega
  have hv := val_take_drop (B := 2 ^ k) (digs (2 ^ k) v) m (by omega)
  rw [val_digs hB] at hv
  have hd : (digs (2 ^ k) v).drop m = [(digs (2 ^ k) v).getD m 0] := by
    rw [List.drop_eq_getElem_cons hl, List.getD_eq_getElem?_getD, List.getElem?_eq_getElem hl, List.drop_of_length_le (by omega)]; rfl
  have hne := digs_top_ne hB hm
  rw [hd] at hv
  have ht := val_lt ((digs_ok hB v).take m)
  rw [List.length_take, Nat.min_eq_left (by omega), ← Nat.pow_mul] at ht
  rw [← Nat.pow_mul] at hv
  generalize (digs (2 ^ k) v).getD m 0 = x at *
  generalize val (2 ^ k) ((digs (2 ^ k) v).take m) = y at *
  have hdiv : v / 2 ^ (k * m) = x := by
    rw [hv, Nat.add_mul_div_left _ _ (Nat.pow_pos (by omega)), Nat.div_eq_of_lt ht]; simp [val]
  rw [blen_shift (b := k * m) (by rw [hdiv]; exact hne), hdiv]

end Go.Proofs.Ytincemkjdgbnnaa.Lm
