/- Plain: what the towers' laws say modulo a prime. No program in sight. -/
import Derived.Test.YtincemkjdgbnnaaTwI
set_option linter.unusedVariables false
set_option linter.unusedSimpArgs false
namespace Go.Proofs.Ytincemkjdgbnnaa
open Go.RowKit Lm

theorem cg_add {P a b c d : Int} (h : P ∣ a - b) (k : P ∣ c - d) : P ∣ (a + c) - (b + d) := by
  rw [show (a + c) - (b + d) = (a - b) + (c - d) by omega]; exact Int.dvd_add h k
theorem cg_sub {P a b c d : Int} (h : P ∣ a - b) (k : P ∣ c - d) : P ∣ (a - c) - (b - d) := by
  rw [show (a - c) - (b - d) = (a - b) - (c - d) by omega]; exact Int.dvd_sub h k
theorem cg_mul {P a b c d : Int} (h : P ∣ a - b) (k : P ∣ c - d) : P ∣ a * c - b * d := by
  rw [show a * c - b * d = a * (c - d) + (a - b) * d by grind]
  exact Int.dvd_add (Int.dvd_mul_of_dvd_right k) (Int.dvd_mul_of_dvd_left h)
theorem cg_neg {P a b : Int} (h : P ∣ a - b) : P ∣ -a - -b := by
  rw [show -a - -b = -(a - b) by omega]; exact Int.dvd_neg.2 h
theorem cg_refl (P a : Int) : P ∣ a - a := by rw [Int.sub_self]; exact Int.dvd_zero _
def Cg2 (P : Int) (x y : Z2) : Prop := P ∣ x.a - y.a ∧ P ∣ x.b - y.b
def Cg6 (P : Int) (x y : Z6) : Prop := Cg2 P x.a y.a ∧ Cg2 P x.b y.b ∧ Cg2 P x.c y.c
def Cg12 (P : Int) (x y : Z12) : Prop := Cg6 P x.a y.a ∧ Cg6 P x.b y.b
section
variable {P : Int}
theorem Cg2.refl (x : Z2) : Cg2 P x x := ⟨cg_refl _ _, cg_refl _ _⟩
theorem Cg6.refl (x : Z6) : Cg6 P x x := ⟨.refl _, .refl _, .refl _⟩
theorem Cg12.refl (x : Z12) : Cg12 P x x := ⟨.refl _, .refl _⟩
theorem Cg2.add {x y x' y' : Z2} (h : Cg2 P x y) (k : Cg2 P x' y') : Cg2 P (x.add x') (y.add y') := ⟨cg_add h.1 k.1, cg_add h.2 k.2⟩
theorem Cg2.sub {x y x' y' : Z2} (h : Cg2 P x y) (k : Cg2 P x' y') : Cg2 P (x.sub x') (y.sub y') := ⟨cg_sub h.1 k.1, cg_sub h.2 k.2⟩
theorem Cg2.conj {x y : Z2} (h : Cg2 P x y) : Cg2 P x.conj y.conj := ⟨h.1, cg_neg h.2⟩
theorem Cg2.mul {x y x' y' : Z2} (h : Cg2 P x y) (k : Cg2 P x' y') : Cg2 P (x.mul x') (y.mul y') :=
  ⟨cg_sub (cg_mul h.1 k.1) (cg_mul h.2 k.2), cg_add (cg_mul h.1 k.2) (cg_mul h.2 k.1)⟩
theorem Cg2.up {N : Int} {x y : Z2} (h : Cg2 P x y) : Cg2 P (x.up N) (y.up N) := h.mul (.refl _)
theorem Cg6.add {x y x' y' : Z6} (h : Cg6 P x y) (k : Cg6 P x' y') : Cg6 P (x.add x') (y.add y') := ⟨h.1.add k.1, h.2.1.add k.2.1, h.2.2.add k.2.2⟩
theorem Cg6.sub {x y x' y' : Z6} (h : Cg6 P x y) (k : Cg6 P x' y') : Cg6 P (x.sub x') (y.sub y') := ⟨h.1.sub k.1, h.2.1.sub k.2.1, h.2.2.sub k.2.2⟩
theorem Cg6.mul {N : Int} {x y x' y' : Z6} (h : Cg6 P x y) (k : Cg6 P x' y') : Cg6 P (Z6.mul N x x') (Z6.mul N y y') :=
  ⟨(h.1.mul k.1).add (((h.2.1.mul k.2.2).add (h.2.2.mul k.2.1)).up), ((h.1.mul k.2.1).add (h.2.1.mul k.1)).add ((h.2.2.mul k.2.2).up), ((h.1.mul k.2.2).add (h.2.1.mul k.2.1)).add (h.2.2.mul k.1)⟩
theorem Cg6.up {N : Int} {x y : Z6} (h : Cg6 P x y) : Cg6 P (x.up N) (y.up N) := ⟨h.2.2.up, h.1, h.2.1⟩
theorem Cg12.mul {N : Int} {x y x' y' : Z12} (h : Cg12 P x y) (k : Cg12 P x' y') : Cg12 P (Z12.mul N x x') (Z12.mul N y y') :=
  ⟨(h.1.mul k.1).add ((h.2.mul k.2).up), (h.1.mul k.2).add (h.2.mul k.1)⟩
theorem Cg12.conj {x y : Z12} (h : Cg12 P x y) : Cg12 P x.conj y.conj := ⟨h.1, (Cg6.refl _).sub h.2⟩
end
theorem zm_cg {P : Nat} {X Y : Int} (h : (P : Int) ∣ X - Y) : zm P X = zm P Y := by
  unfold zm
  rw [(Int.emod_eq_emod_iff_emod_sub_eq_zero).2 (Int.emod_eq_zero_of_dvd h)]
theorem cg_zm {P : Nat} (h : 0 < P) (X : Int) : (P : Int) ∣ ((zm P X : Nat) : Int) - X := by
  unfold zm
  rw [Int.toNat_of_nonneg (Int.emod_nonneg _ (by omega))]
  exact ⟨-(X / P), by have := Int.mul_ediv_add_emod X P; rw [Int.mul_neg]; omega⟩
theorem o2_cg {P : Nat} {X Y : Z2} (h : Cg2 P X Y) : o2 P X = o2 P Y := by unfold o2; rw [zm_cg h.1, zm_cg h.2]
theorem o6_cg {P : Nat} {X Y : Z6} (h : Cg6 P X Y) : o6 P X = o6 P Y := by unfold o6; rw [o2_cg h.1, o2_cg h.2.1, o2_cg h.2.2]
theorem o12_cg {P : Nat} {X Y : Z12} (h : Cg12 P X Y) : o12 P X = o12 P Y := by unfold o12; rw [o6_cg h.1, o6_cg h.2]
theorem io2 {P : Nat} (h : 0 < P) (X : Z2) : Cg2 P (i2 (o2 P X)) X := ⟨cg_zm h _, cg_zm h _⟩
theorem io6 {P : Nat} (h : 0 < P) (X : Z6) : Cg6 P (i6 (o6 P X)) X := ⟨io2 h _, io2 h _, io2 h _⟩
theorem io12 {P : Nat} (h : 0 < P) (X : Z12) : Cg12 P (i12 (o12 P X)) X := ⟨io6 h _, io6 h _⟩

/-! the laws, as the statement asks for them -/
section
variable {P : Nat} {N : Int}
theorem law_comm12 (a b : N12) : o12 P (Z12.mul N (i12 a) (i12 b)) = o12 P (Z12.mul N (i12 b) (i12 a)) := by rw [Z12.mul_comm']
theorem law_comm6 (a b : N6) : o6 P (Z6.mul N (i6 a) (i6 b)) = o6 P (Z6.mul N (i6 b) (i6 a)) := by rw [Z6.mul_comm']
theorem law_assoc (h : 0 < P) (a b c : N12) : o12 P (Z12.mul N (i12 (o12 P (Z12.mul N (i12 a) (i12 b)))) (i12 c)) = o12 P (Z12.mul N (i12 a) (i12 (o12 P (Z12.mul N (i12 b) (i12 c))))) := by
  rw [o12_cg ((io12 h _).mul (.refl _)), o12_cg ((Cg12.refl (i12 a)).mul (io12 h _)), Z12.mul_assoc']
theorem Z6.mul_zero' (x : Z6) : Z6.mul N x Z6.zero = Z6.zero := by
  apply Z6.ext' <;> apply Z2.ext' <;> simp [Z6.mul, Z2.mul, Z2.add, Z2.up, Z6.zero, Z2.zero]
theorem Z2.mul_zero' (x : Z2) : Z2.mul x Z2.zero = Z2.zero := by
  apply Z2.ext' <;> simp [Z2.mul, Z2.zero]
theorem i6_zero : i6 N6.zero = Z6.zero := rfl
theorem i2_zero : i2 N2.zero = Z2.zero := rfl
theorem o6_zero (P : Nat) : o6 P Z6.zero = N6.zero := by simp [o6, o2, Z6.zero, Z2.zero, zm, N6.zero, N2.zero]
theorem o2_zero (P : Nat) : o2 P Z2.zero = N2.zero := by simp [o2, Z2.zero, zm, N2.zero]
theorem law_in12 (a b : N6) : o12 P (Z12.mul N (i12 (⟨a, N6.zero⟩ : N12)) (i12 (⟨b, N6.zero⟩ : N12))) = (⟨o6 P (Z6.mul N (i6 a) (i6 b)), N6.zero⟩ : N12) := by
  have e : Z12.mul N (i12 (⟨a, N6.zero⟩ : N12)) (i12 (⟨b, N6.zero⟩ : N12)) = ⟨Z6.mul N (i6 a) (i6 b), Z6.zero⟩ := by
    show (⟨(Z6.mul N (i6 a) (i6 b)).add ((Z6.mul N Z6.zero Z6.zero).up N), (Z6.mul N (i6 a) Z6.zero).add (Z6.mul N Z6.zero (i6 b))⟩ : Z12) = _
    rw [Z6.mul_comm' N Z6.zero (i6 b), Z6.mul_zero', Z6.mul_zero', Z6.mul_zero']
    apply Z12.ext' <;> apply Z6.ext' <;> apply Z2.ext' <;> simp [Z6.add, Z2.add, Z6.up, Z2.up, Z2.mul, Z6.zero, Z2.zero]
  rw [e]
  show (⟨_, o6 P Z6.zero⟩ : N12) = _
  rw [o6_zero]
theorem law_in6 (a b : N2) : o6 P (Z6.mul N (i6 (⟨a, N2.zero, N2.zero⟩ : N6)) (i6 (⟨b, N2.zero, N2.zero⟩ : N6))) = (⟨o2 P (Z2.mul (i2 a) (i2 b)), N2.zero, N2.zero⟩ : N6) := by
  have e : Z6.mul N (i6 (⟨a, N2.zero, N2.zero⟩ : N6)) (i6 (⟨b, N2.zero, N2.zero⟩ : N6)) = ⟨Z2.mul (i2 a) (i2 b), Z2.zero, Z2.zero⟩ := by
    apply Z6.ext' <;> apply Z2.ext' <;> simp [Z6.mul, i6, i2, N2.zero, Z2.add, Z2.up, Z2.mul, Z2.zero]
  rw [e]
  show (⟨_, o2 P Z2.zero, o2 P Z2.zero⟩ : N6) = _
  rw [o2_zero]
theorem law_norm12 (h : 0 < P) (a : N12) : (o12 P (Z12.mul N (i12 a) (i12 (o12 P (Z12.conj (i12 a)))))).b = N6.zero := by
  rw [o12_cg ((Cg12.refl (i12 a)).mul (io12 h _))]
  show o6 P (Z12.mul N (i12 a) (Z12.conj (i12 a))).b = _
  have e : (Z12.mul N (i12 a) (Z12.conj (i12 a))).b = Z6.zero := by
    generalize i12 a = x
    apply Z6.ext' <;> apply Z2.ext' <;> simp only [Z12.mul, Z12.conj, Z6.mul, Z6.add, Z6.sub, Z6.zero, Z2.zero, Z2.add, Z2.sub, Z2.up, Z2.mul, xi] <;> grind
  rw [e, o6_zero]
theorem law_norm2 (h : 0 < P) (a : N2) : (o2 P (Z2.mul (i2 a) (i2 (o2 P (Z2.conj (i2 a)))))).b = 0 := by
  rw [o2_cg ((Cg2.refl (i2 a)).mul (io2 h _))]
  show zm P (Z2.mul (i2 a) (Z2.conj (i2 a))).b = _
  have e : (Z2.mul (i2 a) (Z2.conj (i2 a))).b = 0 := by
    generalize i2 a = x
    simp only [Z2.mul, Z2.conj]; grind
  rw [e]; simp [zm]
theorem law_dist (h : 0 < P) (a b c : N2) : o2 P (Z2.mul (i2 a) (i2 (o2 P (Z2.add (i2 b) (i2 c))))) = o2 P (Z2.add (i2 (o2 P (Z2.mul (i2 a) (i2 b)))) (i2 (o2 P (Z2.mul (i2 a) (i2 c))))) := by
  rw [o2_cg ((Cg2.refl (i2 a)).mul (io2 h _)), o2_cg ((io2 h _).add (io2 h _)), Z2.mul_add']
end
end Go.Proofs.Ytincemkjdgbnnaa
