/- Walks: elements of the three fields are compared. -/
import Derived.Test.YtincemkjdgbnnaaTwG
import Derived.ChangeKeysEq
set_option linter.unusedVariables false
set_option linter.unusedSimpArgs false
namespace Go.Proofs.Ytincemkjdgbnnaa
open Go.RowKit Lm

theorem items_ok {P : Program} {w : World} {d c : Nat} {e : TypeId} {xs ys : Array Value} (f : Nat → Bool) : ∀ is : List Nat, (∀ i ∈ is, ∃ a b, (part e xs (i * c)).run P w = .ok a w ∧ (part e ys (i * c)).run P w = .ok b w ∧ (Op.equalIn d e a b).run P w = .ok (f i) w) →
    (Op.eqItems d e c xs ys is).run P w = .ok (is.all f) w
  | [], _ => by simp [Op.eqItems]
  | i :: is, h => by
    obtain ⟨a, b, p1, p2, p3⟩ := h i (by simp)
    have ih := items_ok f is fun j hj => h j (by simp [hj])
    simp only [Op.eqItems, Sem.run_bind, p1, p2, p3, Result.andThen_ok, List.all_cons]
    cases hf : f i
    · simp
    · simpa using ih
theorem part_list {P : Program} {w : World} {e : TypeId} {s : Nat} (hg : (isAgg e).run P w = .ok true w) (hs : (P.info? e).map (·.size) = some s) (l : List Value) (off : Nat) {c : List Value} (hc : (l.drop off).take s = c) :
    (part e l.toArray off).run P w = .ok (.agg c.toArray) w := by
  have hs' : ∃ j, P.info? e = some j ∧ j.size = s := by
    cases hq : P.info? e with
    | none => rw [hq] at hs; cases hs
    | some j => rw [hq] at hs; exact ⟨j, rfl, by simpa using hs⟩
  obtain ⟨j, hj, hj2⟩ := hs'
  subst hj2
  subst hc
  unfold part
  simp only [Sem.run_bind, hg, Result.andThen_ok, if_true, run_sizeOf w hj, Sem.run_pure]
  congr 3
  simp [List.extract_eq_take_drop, Program.cellsOf, hj]
/-- arrays of two, of three. -/
theorem arr2 {P : Program} {w : World} {d s : Nat} {t e : TypeId} (hu : P.underlying t = some (.array 2 e)) (hs : (P.info? e).map (·.size) = some s) (hg : (isAgg e).run P w = .ok true w) {a b a' b' : List Value} (ha : a.length = s) (hb : b.length = s) (ha' : a'.length = s) (hb' : b'.length = s)
    {p q : Bool} (h0 : (Op.equalIn d e (.agg a.toArray) (.agg a'.toArray)).run P w = .ok p w) (h1 : (Op.equalIn d e (.agg b.toArray) (.agg b'.toArray)).run P w = .ok q w) :
    (Op.equalIn (d + 1) t (.agg (a ++ b).toArray) (.agg (a' ++ b').toArray)).run P w = .ok (p && q) w := by
  have hs' : ∃ j, P.info? e = some j ∧ j.size = s := by
    cases hq : P.info? e with
    | none => rw [hq] at hs; cases hs
    | some j => rw [hq] at hs; exact ⟨j, rfl, by simpa using hs⟩
  obtain ⟨j, hj, hj2⟩ := hs'
  have hc : P.cellsOf e = s := by simp [Program.cellsOf, hj, hj2]
  rw [run_equalIn_array w d _ _ hu hj, hc, items_ok (fun i => if i = 0 then p else q)]
  · simp [List.range, List.range.loop]
  · intro i hi
    rcases (show i = 0 ∨ i = 1 by simp at hi; omega) with rfl | rfl
    · exact ⟨_, _, part_list (c := a) hg hs _ _ (by rw [Nat.zero_mul]; exact part0 _ _ ha), part_list (c := a') hg hs _ _ (by rw [Nat.zero_mul]; exact part0 _ _ ha'), h0⟩
    · exact ⟨_, _, part_list (c := b) hg hs _ _ (by rw [Nat.one_mul]; exact part1 _ _ ha hb), part_list (c := b') hg hs _ _ (by rw [Nat.one_mul]; exact part1 _ _ ha' hb'), h1⟩
theorem arr3 {P : Program} {w : World} {d s : Nat} {t e : TypeId} (hu : P.underlying t = some (.array 3 e)) (hs : (P.info? e).map (·.size) = some s) (hg : (isAgg e).run P w = .ok true w) {a b c a' b' c' : List Value} (ha : a.length = s) (hb : b.length = s) (hc : c.length = s) (ha' : a'.length = s) (hb' : b'.length = s) (hc' : c'.length = s)
    {p q r : Bool} (h0 : (Op.equalIn d e (.agg a.toArray) (.agg a'.toArray)).run P w = .ok p w) (h1 : (Op.equalIn d e (.agg b.toArray) (.agg b'.toArray)).run P w = .ok q w) (h2 : (Op.equalIn d e (.agg c.toArray) (.agg c'.toArray)).run P w = .ok r w) :
    (Op.equalIn (d + 1) t (.agg (a ++ (b ++ c)).toArray) (.agg (a' ++ (b' ++ c')).toArray)).run P w = .ok (p && q && r) w := by
  have hs' : ∃ j, P.info? e = some j ∧ j.size = s := by
    cases hq : P.info? e with
    | none => rw [hq] at hs; cases hs
    | some j => rw [hq] at hs; exact ⟨j, rfl, by simpa using hs⟩
  obtain ⟨j, hj, hj2⟩ := hs'
  have hce : P.cellsOf e = s := by simp [Program.cellsOf, hj, hj2]
  rw [run_equalIn_array w d _ _ hu hj, hce, items_ok (fun i => if i = 0 then p else if i = 1 then q else r)]
  · simp [List.range, List.range.loop, Bool.and_assoc]
  · intro i hi
    rcases (show i = 0 ∨ i = 1 ∨ i = 2 by simp at hi; omega) with rfl | rfl | rfl
    · exact ⟨_, _, part_list (c := a) hg hs _ _ (by rw [Nat.zero_mul]; exact part0 _ _ ha), part_list (c := a') hg hs _ _ (by rw [Nat.zero_mul]; exact part0 _ _ ha'), h0⟩
    · exact ⟨_, _, part_list (c := b) hg hs _ _ (by rw [Nat.one_mul]; exact part_mid _ _ _ ha hb), part_list (c := b') hg hs _ _ (by rw [Nat.one_mul]; exact part_mid _ _ _ ha' hb'), h1⟩
    · exact ⟨_, _, part_list (c := c) hg hs _ _ (part_end _ _ _ (by omega) hc), part_list (c := c') hg hs _ _ (part_end _ _ _ (by omega) hc'), h2⟩
/-- six numbers. -/
theorem eqVEd {w : World} (d : Nat) (ty : TypeId) (hu : Try.prog.underlying ty = some (.array 6 22)) (x y : Nat) : (Op.equalIn (d + 2) ty (vE x) (vE y)).run Try.prog w = .ok (eqv x y) w := by
  have hinfo : ∃ j, Try.prog.info? 22 = some j ∧ j.size = 1 := by
    have h := Try.info_u64
    cases hq : Try.prog.info? 22 with
    | none => rw [hq] at h; cases h
    | some j => rw [hq] at h; simp at h; exact ⟨j, rfl, h.2.1⟩
  obtain ⟨j, hj, hj2⟩ := hinfo
  have hce : Try.prog.cellsOf 22 = 1 := by simp [Program.cellsOf, hj, hj2]
  obtain ⟨a0, a1, a2, a3, a4, a5, ha⟩ := fix6_list x
  obtain ⟨b0, b1, b2, b3, b4, b5, hb⟩ := fix6_list y
  have hx : vE x = .agg ([.int .u64 a0, .int .u64 a1, .int .u64 a2, .int .u64 a3, .int .u64 a4, .int .u64 a5] : List Value).toArray := by unfold vE ve nums; rw [ha]; rfl
  have hy : vE y = .agg ([.int .u64 b0, .int .u64 b1, .int .u64 b2, .int .u64 b3, .int .u64 b4, .int .u64 b5] : List Value).toArray := by unfold vE ve nums; rw [hb]; rfl
  rw [hx, hy, run_equalIn_array w (d + 1) _ _ hu hj, hce, items_ok (fun i => (nth [a0, a1, a2, a3, a4, a5] i : Int) == (nth [b0, b1, b2, b3, b4, b5] i : Int))]
  · have hiff : ((a0 : Int) = b0 ∧ (a1 : Int) = b1 ∧ (a2 : Int) = b2 ∧ (a3 : Int) = b3 ∧ (a4 : Int) = b4 ∧ (a5 : Int) = b5) ↔ x % B64 ^ 6 = y % B64 ^ 6 := by
      rw [← fix_inj6, ha, hb]
      simp only [List.cons.injEq, and_true, Int.ofNat_inj]
    have h2 : (List.range 6).all (fun i => (nth [a0, a1, a2, a3, a4, a5] i : Int) == (nth [b0, b1, b2, b3, b4, b5] i : Int)) = decide ((a0 : Int) = b0 ∧ (a1 : Int) = b1 ∧ (a2 : Int) = b2 ∧ (a3 : Int) = b3 ∧ (a4 : Int) = b4 ∧ (a5 : Int) = b5) := by
      simp only [List.range, List.range.loop, List.all_cons, List.all_nil, nth]
      rw [Bool.eq_iff_iff]
      simp
    rw [h2]
    exact congrArg (fun b => Result.ok b w) (decide_eq_decide.2 hiff)
  · intro i hi
    have hpk : Try.prog.plainKey 22 = true := by kernel_rfl
    have hi6 : i < 6 := by simpa using hi
    refine ⟨.int .u64 (nth [a0, a1, a2, a3, a4, a5] i : Int), .int .u64 (nth [b0, b1, b2, b3, b4, b5] i : Int), run_part_plain w hpk ?_, run_part_plain w hpk ?_, run_equalIn_int w d _ _ _ _ _ Try.underlying22⟩
    all_goals
      rcases (show i = 0 ∨ i = 1 ∨ i = 2 ∨ i = 3 ∨ i = 4 ∨ i = 5 by omega) with rfl | rfl | rfl | rfl | rfl | rfl <;> rfl

def q2 (x y : N2) : Bool := eqv x.a y.a && eqv x.b y.b
def q6 (x y : N6) : Bool := q2 x.a y.a && q2 x.b y.b && q2 x.c y.c
def q12 (x y : N12) : Bool := q6 x.a y.a && q6 x.b y.b
theorem q2_refl (x : N2) : q2 x x = true := by simp [q2, eqv]
theorem q6_refl (x : N6) : q6 x x = true := by simp [q6, q2_refl]
theorem q12_refl (x : N12) : q12 x x = true := by simp [q12, q6_refl]
theorem Try.isAggN (w : World) : (isAgg 24).run Try.prog w = .ok true w := by kernel_rfl
theorem Try.isAggF2 (w : World) : (isAgg 60).run Try.prog w = .ok true w := by kernel_rfl
theorem Try.isAggF6 (w : World) : (isAgg 62).run Try.prog w = .ok true w := by kernel_rfl
section
variable {w : World}
theorem eqF2 (d : Nat) (x y : N2) : (Op.equalIn (d + 3) 60 (.agg (n2 x).toArray) (.agg (n2 y).toArray)).run Try.prog w = .ok (q2 x y) w :=
  arr2 Try.underlying60 Try.sz24 (Try.isAggN w) (ve_length _) (ve_length _) (ve_length _) (ve_length _) (eqVEd d _ Try.underlying24 x.a y.a) (eqVEd d _ Try.underlying24 x.b y.b)
theorem eqF6 (d : Nat) (x y : N6) : (Op.equalIn (d + 4) 62 (.agg (n6 x).toArray) (.agg (n6 y).toArray)).run Try.prog w = .ok (q6 x y) w :=
  arr3 Try.underlying62 Try.szF2' (Try.isAggF2 w) (n2_len _) (n2_len _) (n2_len _) (n2_len _) (n2_len _) (n2_len _) (eqF2 d x.a y.a) (eqF2 d x.b y.b) (eqF2 d x.c y.c)
theorem eqF12 (d : Nat) (x y : N12) : (Op.equalIn (d + 5) 64 (.agg (n12 x).toArray) (.agg (n12 y).toArray)).run Try.prog w = .ok (q12 x y) w :=
  arr2 Try.underlying64 Try.szF6 (Try.isAggF6 w) (n6_len _) (n6_len _) (n6_len _) (n6_len _) (eqF6 d x.a y.a) (eqF6 d x.b y.b)
end
section
variable {o : Oper} {a : Act} {w : World} {Q : Exit → Act → World → Prop} {K : Act → World → Prop}
theorem wp_eqlA (x y : Operand) (t z : TypeId) (ho : o.op = .binOp .eql t x y z) {xs ys : List Value} (hx : a.eval x = .agg xs.toArray) (hy : a.eval y = .agg ys.toArray) (hm : Try.prog.eqGuardType Try.prog.depth t = false) {b : Bool}
    (hb : (Op.equalIn 10000 t (.agg xs.toArray) (.agg ys.toArray)).run Try.prog w = .ok b w) (h : K (a.put o.dst (.bool b)) w) : o.wp Try.prog a w K Q := by
  unfold Oper.wp execOp
  have hg := run_eqGuard_agg (P := Try.prog) w .eql t x y xs.toArray ys.toArray hm
  have hb' : (binOp .eql t (.agg xs.toArray) (.agg ys.toArray)).run Try.prog w = .ok (.bool b) w := by rw [run_eql_struct, hb]; rfl
  simp only [ho, hx, hy, Sem.run_bind, hg, hb', Result.andThen_ok, Sem.run_pure]
  exact h
theorem wp_neqA (x y : Operand) (t z : TypeId) (ho : o.op = .binOp .neq t x y z) {xs ys : List Value} (hx : a.eval x = .agg xs.toArray) (hy : a.eval y = .agg ys.toArray) (hm : Try.prog.eqGuardType Try.prog.depth t = false) {b : Bool}
    (hb : (Op.equalIn 10000 t (.agg xs.toArray) (.agg ys.toArray)).run Try.prog w = .ok b w) (h : K (a.put o.dst (.bool (!b))) w) : o.wp Try.prog a w K Q := by
  unfold Oper.wp execOp
  have hg := run_eqGuard_agg (P := Try.prog) w .neq t x y xs.toArray ys.toArray hm
  have hb' : (binOp .neq t (.agg xs.toArray) (.agg ys.toArray)).run Try.prog w = .ok (.bool (!b)) w := by rw [run_neq_struct, hb]; rfl
  simp only [ho, hx, hy, Sem.run_bind, hg, hb', Result.andThen_ok, Sem.run_pure]
  exact h
end
theorem Try.egF2 : Try.prog.eqGuardType Try.prog.depth 60 = false := by kernel_rfl
theorem Try.egF6 : Try.prog.eqGuardType Try.prog.depth 62 = false := by kernel_rfl
theorem Try.egF12 : Try.prog.eqGuardType Try.prog.depth 64 = false := by kernel_rfl
end Go.Proofs.Ytincemkjdgbnnaa
