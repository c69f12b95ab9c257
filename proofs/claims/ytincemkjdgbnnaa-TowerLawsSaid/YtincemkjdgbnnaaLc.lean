/- Plain: chains of digits: sums with a carry, differences with a borrow, products with a carry, one digit behind the other. -/
import Derived.Test.YtincemkjdgbnnaaMem
import Derived.Test.YtincemkjdgbnnaaLm
set_option linter.unusedVariables false
set_option linter.unusedSimpArgs false
namespace Go.Proofs.Ytincemkjdgbnnaa
open Lm

/-- the first i places are the digits of v, the others stand as they stood. -/
def ch (B i v : Nat) (L : List Nat) : List Nat := fix B i v ++ L.drop i

section
variable {B i v : Nat} {L : List Nat}
theorem ch_length (h : i ≤ L.length) : (ch B i v L).length = L.length := by simp [ch, fix_length]; omega
theorem ch_zero : ch B 0 v L = L := by simp [ch, fix]
theorem ch_full : ch B L.length v L = fix B L.length v := by simp [ch]
theorem ch_full' {n : Nat} (h : L.length = n) : ch B n v L = fix B n v := by subst h; exact ch_full
theorem ch_ok (hB : 0 < B) (h : Ok B L) : Ok B (ch B i v L) := (fix_ok hB _ _).append (h.drop _)
theorem nth_ch {j : Nat} (h : i ≤ j) : nth (ch B i v L) j = nth L j := by
  rw [ch, nth_append_right (by rw [fix_length]; exact h), fix_length, nth_drop]; congr 1; omega
theorem fix_succ (hv : v < B ^ i) {d : Nat} (hd : d < B) : fix B (i + 1) (v + B ^ i * d) = fix B i v ++ [d] := by
  have hB : 0 < B := by omega
  have hP : 0 < B ^ i := Nat.pow_pos hB
  refine val_inj (fix_ok hB _ _) ((fix_ok hB _ _).append (Ok.cons hd Ok.nil)) (by simp [fix_length]) ?_
  have h1 : v + B ^ i * d < B ^ (i + 1) := by
    have : B ^ i * d + B ^ i ≤ B ^ i * B := by rw [← Nat.mul_succ]; exact Nat.mul_le_mul_left _ hd
    rw [Nat.pow_succ]; omega
  rw [val_fix_of_lt h1, val_append, fix_length, val_fix_of_lt hv]; simp
theorem ch_set (hi : i < L.length) (hv : v < B ^ i) {d : Nat} (hd : d < B) : (ch B i v L).set i d = ch B (i + 1) (v + B ^ i * d) L := by
  have h0 : (L.drop i).set 0 d = d :: L.drop (i + 1) := by rw [List.drop_eq_getElem_cons hi]; rfl
  rw [ch, ch, fix_succ hv hd, List.set_append_right _ _ (by rw [fix_length]; exact Nat.le_refl _), fix_length, Nat.sub_self, h0]
  simp
theorem val_ch (h : i ≤ L.length) (hv : v < B ^ i) : val B (ch B i v L) = v + B ^ i * val B (L.drop i) := by
  rw [ch, val_append, fix_length, val_fix_of_lt hv]
end

/-! sums -/
theorem carry_mod {P B T x : Nat} : (T + P * x) % (P * B) = T % P + P * ((T / P + x) % B) := by
  rcases Nat.eq_zero_or_pos P with h | h
  · subst h; simp
  · rw [Nat.mod_mul, Nat.add_mul_mod_self_left, Nat.add_mul_div_left _ _ h]
theorem carry_div {P B T x : Nat} (h : 0 < P) : (T + P * x) / (P * B) = (T / P + x) / B := by
  rw [← Nat.div_div_eq_div_mul, Nat.add_mul_div_left _ _ h]

/-! differences -/
def bo (a b : Nat) : Nat := if a < b then 1 else 0
def sb (P a b : Nat) : Nat := a + bo a b * P - b
theorem bo_le (a b : Nat) : bo a b ≤ 1 := by unfold bo; split <;> omega
theorem sb_lt {P a b : Nat} (ha : a < P) (hb : b < P) : sb P a b < P := by unfold sb bo; split <;> omega
theorem sb_eq {P a b : Nat} (hb : b ≤ P) : sb P a b + b = a + bo a b * P := by unfold sb bo; split <;> omega
theorem bo_step {P a b x y : Nat} (ha : a < P) (hb : b < P) : bo (a + P * x) (b + P * y) = if x < y + bo a b then 1 else 0 := by
  unfold bo
  have e : (a + P * x < b + P * y) ↔ (x < y + (if a < b then 1 else 0)) := by
    constructor
    · intro h
      rcases Nat.lt_or_ge x (y + if a < b then 1 else 0) with h1 | h1
      · exact h1
      · exfalso
        split at h1
        · have : P * (y + 1) ≤ P * x := Nat.mul_le_mul_left _ h1
          rw [Nat.mul_succ] at this; omega
        · have : P * y ≤ P * x := Nat.mul_le_mul_left _ (by omega)
          omega
    · intro h
      split at h
      · rcases Nat.lt_or_ge x y with h1 | h1
        · have : P * (x + 1) ≤ P * y := Nat.mul_le_mul_left _ h1
          rw [Nat.mul_succ] at this; omega
        · have : x = y := by omega
          subst this; omega
      · have : P * (x + 1) ≤ P * y := Nat.mul_le_mul_left _ (by omega)
        rw [Nat.mul_succ] at this; omega
  by_cases h : a + P * x < b + P * y
  · rw [if_pos h, if_pos (e.1 h)]
  · rw [if_neg h, if_neg (fun h2 => h (e.2 h2))]
theorem sb_step {P B a b x y : Nat} (ha : a < P) (hb : b < P) (hx : x < B) (hy : y < B) :
    sb (P * B) (a + P * x) (b + P * y) = sb P a b + P * ((x + B - y - bo a b) % B) := by
  have h1 := sb_eq (P := P) (a := a) (b := b) (by omega)
  have hs := bo_step (x := x) (y := y) ha hb
  have hle := bo_le a b
  have hbB : b + P * y ≤ P * B := by
    have : P * (y + 1) ≤ P * B := Nat.mul_le_mul_left _ hy
    rw [Nat.mul_succ] at this; omega
  have h2 := sb_eq (P := P * B) (a := a + P * x) (b := b + P * y) hbB
  rw [hs] at h2
  generalize sb (P * B) (a + P * x) (b + P * y) = s2 at *
  generalize sb P a b = s1 at *
  generalize bo a b = o at *
  have hd : (x + B - y - o) % B = x + (if x < y + o then B else 0) - (y + o) := by
    split
    · rw [Nat.mod_eq_of_lt (by omega)]; omega
    · rw [show x + B - y - o = (x - (y + o)) + B by omega, Nat.add_mod_right, Nat.mod_eq_of_lt (by omega)]; omega
  rw [hd]
  split at h2
  · rename_i h
    rw [if_pos h]
    have e : P * (x + B - (y + o)) + P * (y + o) = P * (x + B) := by rw [← Nat.mul_add]; congr 1; omega
    rw [Nat.mul_add, Nat.mul_add] at e
    have : P * o = o * P := Nat.mul_comm _ _
    omega
  · rename_i h
    rw [if_neg h]
    have e : P * (x + 0 - (y + o)) + P * (y + o) = P * x := by rw [← Nat.mul_add]; congr 1; omega
    rw [Nat.mul_add] at e
    have : P * o = o * P := Nat.mul_comm _ _
    omega

/-! the first digits of a list, one more -/
theorem vt_succ {B : Nat} (l : List Nat) (i : Nat) (h : i < l.length) : val B (l.take (i + 1)) = val B (l.take i) + B ^ i * nth l i := by
  rw [val_take_succ l i h, nth_of_lt h]
/-- past the list's end nothing is added. -/
theorem vt_succ' {B : Nat} (l : List Nat) (i : Nat) : val B (l.take (i + 1)) = val B (l.take i) + B ^ i * nth l i := by
  rcases Nat.lt_or_ge i l.length with h | h
  · exact vt_succ l i h
  · rw [List.take_of_length_le (by omega), List.take_of_length_le h, nth_of_ge h, Nat.mul_zero, Nat.add_zero]
theorem vt_lt {B : Nat} {l : List Nat} (h : Ok B l) (hB : 0 < B) (i : Nat) : val B (l.take i) < B ^ i := by
  have h1 := val_lt (h.take i)
  rw [List.length_take] at h1
  exact Nat.lt_of_lt_of_le h1 (Nat.pow_le_pow_right hB (by omega))
theorem vt_full {B : Nat} (l : List Nat) {i : Nat} (h : l.length ≤ i) : val B (l.take i) = val B l := by rw [List.take_of_length_le h]

end Go.Proofs.Ytincemkjdgbnnaa
