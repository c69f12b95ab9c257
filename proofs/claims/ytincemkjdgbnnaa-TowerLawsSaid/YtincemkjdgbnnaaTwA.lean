/- Plain: the towers of fields over the whole numbers (to be read modulo a prime), and their laws. No program in sight. -/
namespace Go.Proofs.Ytincemkjdgbnnaa

structure Z2 where
  a : Int
  b : Int
structure Z6 where
  a : Z2
  b : Z2
  c : Z2
structure Z12 where
  a : Z6
  b : Z6
theorem Z2.ext' {x y : Z2} (h1 : x.a = y.a) (h2 : x.b = y.b) : x = y := by cases x; cases y; simp_all
theorem Z6.ext' {x y : Z6} (h1 : x.a = y.a) (h2 : x.b = y.b) (h3 : x.c = y.c) : x = y := by cases x; cases y; simp_all
theorem Z12.ext' {x y : Z12} (h1 : x.a = y.a) (h2 : x.b = y.b) : x = y := by cases x; cases y; simp_all

def Z2.add (x y : Z2) : Z2 := ⟨x.a + y.a, x.b + y.b⟩
def Z2.sub (x y : Z2) : Z2 := ⟨x.a - y.a, x.b - y.b⟩
def Z2.neg (x : Z2) : Z2 := ⟨-x.a, -x.b⟩
def Z2.conj (x : Z2) : Z2 := ⟨x.a, -x.b⟩
def Z2.mul (x y : Z2) : Z2 := ⟨x.a * y.a - x.b * y.b, x.a * y.b + x.b * y.a⟩
def Z2.one : Z2 := ⟨1, 0⟩
def Z2.zero : Z2 := ⟨0, 0⟩
/-- what v to the third is. -/
def xi (N : Int) : Z2 := ⟨N, 1⟩
def Z2.up (N : Int) (x : Z2) : Z2 := x.mul (xi N)
def Z6.add (x y : Z6) : Z6 := ⟨x.a.add y.a, x.b.add y.b, x.c.add y.c⟩
def Z6.sub (x y : Z6) : Z6 := ⟨x.a.sub y.a, x.b.sub y.b, x.c.sub y.c⟩
def Z6.one : Z6 := ⟨Z2.one, Z2.zero, Z2.zero⟩
def Z6.zero : Z6 := ⟨Z2.zero, Z2.zero, Z2.zero⟩
def Z6.mul (N : Int) (x y : Z6) : Z6 :=
  ⟨(x.a.mul y.a).add (((x.b.mul y.c).add (x.c.mul y.b)).up N), ((x.a.mul y.b).add (x.b.mul y.a)).add ((x.c.mul y.c).up N), ((x.a.mul y.c).add (x.b.mul y.b)).add (x.c.mul y.a)⟩
/-- times v. -/
def Z6.up (N : Int) (x : Z6) : Z6 := ⟨x.c.up N, x.a, x.b⟩
def Z12.one : Z12 := ⟨Z6.one, Z6.zero⟩
def Z12.conj (x : Z12) : Z12 := ⟨x.a, Z6.zero.sub x.b⟩
def Z12.mul (N : Int) (x y : Z12) : Z12 := ⟨(Z6.mul N x.a y.a).add ((Z6.mul N x.b y.b).up N), (Z6.mul N x.a y.b).add (Z6.mul N x.b y.a)⟩
def Z12.pow (N : Int) (x : Z12) : Nat → Z12
  | 0 => Z12.one
  | e + 1 => Z12.mul N (Z12.pow N x e) x
def Z2.pow (x : Z2) : Nat → Z2
  | 0 => Z2.one
  | e + 1 => (Z2.pow x e).mul x

/-! what the program reckons -/
theorem kara2 (x y : Z2) : (⟨x.a * y.a - x.b * y.b, (x.a + x.b) * (y.a + y.b) - x.a * y.a - x.b * y.b⟩ : Z2) = x.mul y := by
  apply Z2.ext' <;> simp only [Z2.mul] <;> grind
/-- the cross products. -/
def Z6.crs (x y u v p q : Z2) : Z2 := (((x.add y).mul (u.add v)).sub p).sub q
theorem kara6 (N : Int) (x y : Z6) :
    (⟨(x.a.mul y.a).add ((Z6.crs x.b x.c y.b y.c (x.b.mul y.b) (x.c.mul y.c)).up N), (Z6.crs x.a x.b y.a y.b (x.a.mul y.a) (x.b.mul y.b)).add ((x.c.mul y.c).up N), (Z6.crs x.a x.c y.a y.c (x.a.mul y.a) (x.c.mul y.c)).add (x.b.mul y.b)⟩ : Z6) = Z6.mul N x y := by
  apply Z6.ext' <;> apply Z2.ext' <;> simp only [Z6.mul, Z6.crs, Z2.mul, Z2.add, Z2.sub, Z2.up, xi] <;> grind
theorem kara12 (N : Int) (x y : Z12) :
    (⟨(Z6.mul N x.a y.a).add ((Z6.mul N x.b y.b).up N), ((Z6.mul N (x.a.add x.b) (y.a.add y.b)).sub (Z6.mul N x.a y.a)).sub (Z6.mul N x.b y.b)⟩ : Z12) = Z12.mul N x y := by
  apply Z12.ext'
  · rfl
  · apply Z6.ext' <;> apply Z2.ext' <;> simp only [Z12.mul, Z6.mul, Z6.add, Z6.sub, Z2.mul, Z2.add, Z2.sub, Z2.up, xi] <;> grind

/-! the laws -/
theorem Z2.mul_comm' (x y : Z2) : x.mul y = y.mul x := by apply Z2.ext' <;> simp only [Z2.mul] <;> grind
theorem Z2.mul_assoc' (x y z : Z2) : (x.mul y).mul z = x.mul (y.mul z) := by apply Z2.ext' <;> simp only [Z2.mul] <;> grind
theorem Z2.mul_add' (x y z : Z2) : x.mul (y.add z) = (x.mul y).add (x.mul z) := by apply Z2.ext' <;> simp only [Z2.mul, Z2.add] <;> grind
theorem Z2.mul_one' (x : Z2) : x.mul Z2.one = x := by apply Z2.ext' <;> simp only [Z2.mul, Z2.one] <;> grind
theorem Z6.mul_comm' (N : Int) (x y : Z6) : Z6.mul N x y = Z6.mul N y x := by
  apply Z6.ext' <;> apply Z2.ext' <;> simp only [Z6.mul, Z2.mul, Z2.add, Z2.up, xi] <;> grind
theorem Z6.mul_assoc' (N : Int) (x y z : Z6) : Z6.mul N (Z6.mul N x y) z = Z6.mul N x (Z6.mul N y z) := by
  apply Z6.ext' <;> apply Z2.ext' <;> simp only [Z6.mul, Z2.mul, Z2.add, Z2.up, xi] <;> grind
theorem Z12.mul_comm' (N : Int) (x y : Z12) : Z12.mul N x y = Z12.mul N y x := by
  apply Z12.ext' <;> apply Z6.ext' <;> apply Z2.ext' <;> simp only [Z12.mul, Z6.mul, Z6.add, Z6.up, Z2.mul, Z2.add, Z2.up, xi] <;> grind
set_option maxHeartbeats 8000000 in
theorem Z12.mul_assoc' (N : Int) (x y z : Z12) : Z12.mul N (Z12.mul N x y) z = Z12.mul N x (Z12.mul N y z) := by
  apply Z12.ext' <;> apply Z6.ext' <;> apply Z2.ext' <;> simp only [Z12.mul, Z6.mul, Z6.add, Z6.up, Z2.mul, Z2.add, Z2.up, xi] <;> grind
theorem Z12.mul_one' (N : Int) (x : Z12) : Z12.mul N x Z12.one = x := by
  apply Z12.ext' <;> apply Z6.ext' <;> apply Z2.ext' <;> simp only [Z12.mul, Z6.mul, Z6.add, Z6.up, Z2.mul, Z2.add, Z2.up, xi, Z12.one, Z6.one, Z6.zero, Z2.one, Z2.zero] <;> grind
theorem Z12.one_mul' (N : Int) (x : Z12) : Z12.mul N Z12.one x = x := by rw [Z12.mul_comm', Z12.mul_one']
theorem Z12.pow_add' (N : Int) (x : Z12) (e : Nat) : ∀ f, Z12.pow N x (e + f) = Z12.mul N (Z12.pow N x e) (Z12.pow N x f)
  | 0 => (Z12.mul_one' N _).symm
  | f + 1 => by rw [← Nat.add_assoc, Z12.pow, Z12.pow, Z12.pow_add' N x e f, Z12.mul_assoc']
theorem Z2.pow_add' (x : Z2) (e : Nat) : ∀ f, Z2.pow x (e + f) = (Z2.pow x e).mul (Z2.pow x f)
  | 0 => (Z2.mul_one' _).symm
  | f + 1 => by rw [← Nat.add_assoc, Z2.pow, Z2.pow, Z2.pow_add' x e f, Z2.mul_assoc']
end Go.Proofs.Ytincemkjdgbnnaa
