/- Elements of the towers as values: six limbs a number, one behind the other; Montgomery's form of a whole number. -/
import Derived.Test.YtincemkjdgbnnaaTwA
import Derived.Test.YtincemkjdgbnnaaOps
import Derived.Test.YtincemkjdgbnnaaSt
set_option linter.unusedVariables false
set_option linter.unusedSimpArgs false
namespace Go.Proofs.Ytincemkjdgbnnaa
open Go.RowKit Lm

/-- a whole number modulo P. -/
def zm (P : Nat) (X : Int) : Nat := (X % (P : Int)).toNat
/-- in Montgomery's form. -/
def mi (P n : Nat) (X : Int) : Nat := mf P n (zm P X)
section
variable {P n : Nat}
theorem zm_lt (hP : 0 < P) (X : Int) : zm P X < P := by
  unfold zm
  have h1 := Int.emod_nonneg X (show (P : Int) ≠ 0 by omega)
  have h2 := Int.emod_lt_of_pos X (show (0 : Int) < P by omega)
  omega
theorem zm_cast (hP : 0 < P) (X : Int) : ((zm P X : Nat) : Int) = X % P := Int.toNat_of_nonneg (Int.emod_nonneg X (by omega))
theorem zm_eq {P : Nat} {X : Int} {v : Nat} (h : (v : Int) % P = X % P) : v % P = zm P X := by
  unfold zm
  rw [← h, ← Int.natCast_emod, Int.toNat_natCast]
theorem zm_nat (x : Nat) : zm P (x : Int) = x % P := by unfold zm; rw [← Int.natCast_emod, Int.toNat_natCast]
theorem zm_congr {X Y : Int} (h : X % P = Y % P) : zm P X = zm P Y := by unfold zm; rw [h]
theorem zm_inj (hP : 0 < P) {X Y : Int} : zm P X = zm P Y ↔ X % P = Y % P := ⟨fun h => by rw [← zm_cast hP, ← zm_cast hP, h], zm_congr⟩
theorem zm_zm (hP : 0 < P) (X : Int) : zm P ((zm P X : Nat) : Int) = zm P X := by rw [zm_nat, Nat.mod_eq_of_lt (zm_lt hP X)]
theorem zm_mul (hP : 0 < P) (X Y : Int) : zm P X * zm P Y % P = zm P (X * Y) := zm_eq (by rw [Int.natCast_mul, zm_cast hP, zm_cast hP, ← Int.mul_emod])
theorem zm_add (hP : 0 < P) (X Y : Int) : (zm P X + zm P Y) % P = zm P (X + Y) := zm_eq (by rw [Int.natCast_add, zm_cast hP, zm_cast hP, ← Int.add_emod])
theorem zm_ng (hP : 0 < P) (X : Int) : ng P (zm P X) % P = zm P (-X) := zm_eq (by
  unfold ng
  have h := zm_lt hP X
  rw [Nat.mod_eq_of_lt h, Int.natCast_sub (Nat.le_of_lt h), zm_cast hP, Int.sub_emod, Int.emod_self, Int.zero_sub, show -X = 0 - X by omega, Int.sub_emod 0 X, Int.zero_emod, Int.zero_sub, Int.emod_emod_of_dvd _ (Int.dvd_refl _)])
theorem mf_congr {x y : Nat} (h : x % P = y % P) : mf P n x = mf P n y := by rw [← mf_mod x, ← mf_mod y, h]
theorem mi_lt (hP : 0 < P) (X : Int) : mi P n X < P := mf_lt hP _
theorem mi_congr {X Y : Int} (h : X % P = Y % P) : mi P n X = mi P n Y := by unfold mi; rw [zm_congr h]
theorem mi_inj (hP : 0 < P) (hI : InvOk P) {X Y : Int} : mi P n X = mi P n Y ↔ X % P = Y % P := by
  unfold mi
  rw [mf_inj hI, Nat.mod_eq_of_lt (zm_lt hP X), Nat.mod_eq_of_lt (zm_lt hP Y), zm_inj hP]
theorem mi_mul (hP : 0 < P) (X Y : Int) : mf P n (zm P X * zm P Y) = mi P n (X * Y) := mf_congr (by rw [zm_mul hP, Nat.mod_eq_of_lt (zm_lt hP _)])
theorem mi_add (hP : 0 < P) (X Y : Int) : mf P n (zm P X + zm P Y) = mi P n (X + Y) := mf_congr (by rw [zm_add hP, Nat.mod_eq_of_lt (zm_lt hP _)])
theorem mi_neg (hP : 0 < P) (X : Int) : mf P n (ng P (zm P X)) = mi P n (-X) := mf_congr (by rw [zm_ng hP, Nat.mod_eq_of_lt (zm_lt hP _)])
theorem mi_sub (hP : 0 < P) (X Y : Int) : mf P n (zm P X + ng P (zm P Y)) = mi P n (X - Y) := mf_congr (by
  rw [← Nat.add_mod_mod, zm_ng hP, zm_add hP, ← Int.sub_eq_add_neg, Nat.mod_eq_of_lt (zm_lt hP _)])
theorem mi_nat (x : Nat) : mf P n x = mi P n (x : Int) := mf_congr (by rw [zm_nat, Nat.mod_mod])
theorem mi_one : mf P n 1 = mi P n 1 := mi_nat 1
theorem mi_zero : mi P n 0 = 0 := by rw [← show ((0 : Nat) : Int) = 0 from rfl, ← mi_nat, mf_zero]
end

/-! contracts over whole numbers -/
section
variable {bm P n : Nat} {w : World}
theorem FB.pos (h : FB w bm P n) : 0 < P := by have := h.gt; omega
theorem imul (X Y : Int) (hF : FB w bm P n) (hI : InvOk P) :
    Calls Try.prog 70 #[.pointer (some ⟨bm, 0, none⟩), vE (mi P n X), vE (mi P n Y)] w fun e w' => e = .returned (vE (mi P n (X * Y))) ∧ Below w.heap.size w w' := by
  rw [← mi_mul hF.pos]; exact mmul_c bm P n _ _ w hF hI
theorem iadd (X Y : Int) (hF : FB w bm P n) :
    Calls Try.prog 75 #[.pointer (some ⟨bm, 0, none⟩), vE (mi P n X), vE (mi P n Y)] w fun e w' => e = .returned (vE (mi P n (X + Y))) ∧ Below w.heap.size w w' := by
  rw [← mi_add hF.pos]; exact madd_c bm P n _ _ w hF
theorem isub (X Y : Int) (hF : FB w bm P n) :
    Calls Try.prog 77 #[.pointer (some ⟨bm, 0, none⟩), vE (mi P n X), vE (mi P n Y)] w fun e w' => e = .returned (vE (mi P n (X - Y))) ∧ Below w.heap.size w w' := by
  rw [← mi_sub hF.pos]; exact msub_c bm P n _ _ w hF
theorem ineg (X : Int) (hF : FB w bm P n) :
    Calls Try.prog 135 #[.pointer (some ⟨bm, 0, none⟩), vE (mi P n X)] w fun e w' => e = .returned (vE (mi P n (-X))) ∧ Below w.heap.size w w' := by
  rw [← mi_neg hF.pos]; exact mneg_c bm P n _ w hF
theorem ione (hF : FB w bm P n) :
    Calls Try.prog 144 #[.pointer (some ⟨bm, 0, none⟩)] w fun e w' => e = .returned (vE (mi P n 1)) ∧ Below w.heap.size w w' := by
  rw [← mi_one]; exact mone_c bm P n w hF
theorem iin {b size : Nat} (x : Nat) (hF : FQ w b bm P n size) (hx : x < B64 ^ 6) :
    Calls Try.prog 65 #[.pointer (some ⟨b, 0, none⟩), vE x] w fun e w' => e = .returned (vE (mi P n (x : Int))) ∧ Below w.heap.size w w' := by
  rw [← mi_nat]; exact fin_c b bm P n size x w hF hx
theorem iout {b size : Nat} (X : Int) (hF : FQ w b bm P n size) :
    Calls Try.prog 63 #[.pointer (some ⟨b, 0, none⟩), vE (mi P n X)] w fun e w' => e = .returned (vE (zm P X)) ∧ Below w.heap.size w w' := by
  have := fout_c b bm P n size (zm P X) w hF
  rwa [Nat.mod_eq_of_lt (zm_lt hF.pos X)] at this
end

/-! values -/
structure N2 where
  a : Nat
  b : Nat
structure N6 where
  a : N2
  b : N2
  c : N2
structure N12 where
  a : N6
  b : N6
def eE (P n : Nat) (X : Int) : List Value := ve (mi P n X)
def m2 (P n : Nat) (X : Z2) : List Value := eE P n X.a ++ eE P n X.b
def m6 (P n : Nat) (X : Z6) : List Value := m2 P n X.a ++ (m2 P n X.b ++ m2 P n X.c)
def m12 (P n : Nat) (X : Z12) : List Value := m6 P n X.a ++ m6 P n X.b
def n2 (x : N2) : List Value := ve x.a ++ ve x.b
def n6 (x : N6) : List Value := n2 x.a ++ (n2 x.b ++ n2 x.c)
def n12 (x : N12) : List Value := n6 x.a ++ n6 x.b
/-- as many zeros. -/
def z0 (k : Nat) : List Value := List.replicate k (.int .u64 0)
theorem eE_len (P n : Nat) (X : Int) : (eE P n X).length = 6 := rfl
theorem m2_len (P n : Nat) (X : Z2) : (m2 P n X).length = 12 := rfl
theorem m6_len (P n : Nat) (X : Z6) : (m6 P n X).length = 36 := rfl
theorem m12_len (P n : Nat) (X : Z12) : (m12 P n X).length = 72 := rfl
theorem n2_len (x : N2) : (n2 x).length = 12 := rfl
theorem n6_len (x : N6) : (n6 x).length = 36 := rfl
theorem n12_len (x : N12) : (n12 x).length = 72 := rfl
theorem m2_one (P n : Nat) (X : Z2) : (m2 P n X).all (·.oneCell') = true := rfl
theorem m6_one (P n : Nat) (X : Z6) : (m6 P n X).all (·.oneCell') = true := rfl
theorem m12_one (P n : Nat) (X : Z12) : (m12 P n X).all (·.oneCell') = true := rfl
theorem n2_one (x : N2) : (n2 x).all (·.oneCell') = true := rfl
theorem n6_one (x : N6) : (n6 x).all (·.oneCell') = true := rfl
theorem n12_one (x : N12) : (n12 x).all (·.oneCell') = true := rfl
theorem take_app {α : Type} (A B : List α) {k : Nat} (h : A.length = k) : (A ++ B).take k = A := by subst h; exact List.take_left
theorem drop_app {α : Type} (A B : List α) {k : Nat} (h : A.length = k) : (A ++ B).drop k = B := by subst h; exact List.drop_left
/-- a part of a list. -/
theorem part0 {α : Type} (A B : List α) {k : Nat} (h : A.length = k) : ((A ++ B).drop 0).take k = A := by rw [List.drop_zero]; exact take_app A B h
theorem part1 {α : Type} (A B : List α) {j k : Nat} (h : A.length = j) (h' : B.length = k) : ((A ++ B).drop j).take k = B := by rw [drop_app A B h, ← h', List.take_length]
theorem part_all {α : Type} (A : List α) {k : Nat} (h : A.length = k) : (A.drop 0).take k = A := by rw [List.drop_zero, ← h, List.take_length]
theorem part_mid {α : Type} (A B C : List α) {j k : Nat} (h : A.length = j) (h' : B.length = k) : ((A ++ (B ++ C)).drop j).take k = B := by rw [drop_app A _ h]; exact take_app B C h'
theorem part_end {α : Type} (A B C : List α) {i k : Nat} (h : A.length + B.length = i) (h' : C.length = k) : ((A ++ (B ++ C)).drop i).take k = C := by
  rw [← List.append_assoc, drop_app _ C (by rw [List.length_append, h]), ← h', List.take_length]
/-- an element's own type of value. -/
theorem m6_zero (P n : Nat) : m6 P n Z6.zero = z0 36 := by unfold m6 m2 eE Z6.zero Z2.zero; simp only [mi_zero]; rfl
theorem m2_zero (P n : Nat) : m2 P n Z2.zero = z0 12 := by unfold m2 eE Z2.zero; simp only [mi_zero]; rfl
theorem E_zero (P n : Nat) : vE (mi P n 0) = vE 0 := by rw [mi_zero]
theorem pad_m2 (P n : Nat) (X : Int) : Value.agg (eE P n X ++ (z0 12).drop 6).toArray = .agg (m2 P n ⟨X, 0⟩).toArray := by unfold m2 eE; simp only [mi_zero]; rfl
theorem pad_m6 (P n : Nat) (X : Z2) : Value.agg (m2 P n X ++ (z0 36).drop 12).toArray = .agg (m6 P n ⟨X, Z2.zero, Z2.zero⟩).toArray := by unfold m6; rw [m2_zero]; rfl
theorem pad_m12 (P n : Nat) (X : Z6) : Value.agg (m6 P n X ++ (z0 72).drop 36).toArray = .agg (m12 P n ⟨X, Z6.zero⟩).toArray := by unfold m12; rw [m6_zero]; rfl
theorem Try.szE2 : (Try.prog.info? 123).map (·.size) = some 12 := by kernel_rfl
theorem Try.szE6 : (Try.prog.info? 125).map (·.size) = some 36 := by kernel_rfl
theorem Try.szE12 : (Try.prog.info? 127).map (·.size) = some 72 := by kernel_rfl
theorem Try.szF2' : (Try.prog.info? 60).map (·.size) = some 12 := by kernel_rfl
theorem Try.szF6 : (Try.prog.info? 62).map (·.size) = some 36 := by kernel_rfl
theorem Try.szF12 : (Try.prog.info? 64).map (·.size) = some 72 := by kernel_rfl
theorem Try.zrE2 : (Try.prog.info? 123).map (·.zero) = some (some (.agg (z0 12).toArray)) := by kernel_rfl
theorem Try.zrE6 : (Try.prog.info? 125).map (·.zero) = some (some (.agg (z0 36).toArray)) := by kernel_rfl
theorem Try.zrE12 : (Try.prog.info? 127).map (·.zero) = some (some (.agg (z0 72).toArray)) := by kernel_rfl
theorem Try.zrF2' : (Try.prog.info? 60).map (·.zero) = some (some (.agg (z0 12).toArray)) := by kernel_rfl
theorem Try.zrF6 : (Try.prog.info? 62).map (·.zero) = some (some (.agg (z0 36).toArray)) := by kernel_rfl
theorem Try.zrF12 : (Try.prog.info? 64).map (·.zero) = some (some (.agg (z0 72).toArray)) := by kernel_rfl
end Go.Proofs.Ytincemkjdgbnnaa
