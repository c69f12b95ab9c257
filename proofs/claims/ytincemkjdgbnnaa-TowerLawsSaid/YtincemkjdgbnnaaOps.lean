/- Laws for single operations, applied outright (no search): calls, comparisons, picks. -/
import Derived.Test.YtincemkjdgbnnaaLawB
import Derived.Test.YtincemkjdgbnnaaLoc
import Derived.Test.YtincemkjdgbnnaaPlP
set_option linter.unusedVariables false
set_option linter.unusedSimpArgs false
namespace Go.Proofs.Ytincemkjdgbnnaa
open Go.RowKit Lm

section
variable {o : Oper} {a : Act} {w : World} {Q : Exit → Act → World → Prop} {K : Act → World → Prop}

/-- a call by its contract: that the operation enters the function is a closed fact. -/
theorem wp_callC {P : Program} {f : FuncId} (args args' : Array Value) (hrun : (execOp a.eval o).run P w = .ok (.enter f args) w) (ha : args = args') {R : Ending → World → Prop} (hc : Calls P f args' w R)
    (h : ∀ e w', R e w' → ∃ v, e = .returned v ∧ K (a.put o.dst v) w') : o.wp P a w K Q := by
  subst ha
  unfold Oper.wp
  rw [hrun, Oper.upon_enter]
  refine hc.mono fun e w' hh => ?_
  obtain ⟨v, rfl, hk⟩ := h e w' hh
  exact hk
/-- the same, the value and that only new blocks came being known. -/
theorem wp_callV {P : Program} {f : FuncId} (args args' : Array Value) (v : Value) (hrun : (execOp a.eval o).run P w = .ok (.enter f args) w) (ha : args = args') (hc : Calls P f args' w fun e w' => e = .returned v ∧ Below w.heap.size w w')
    (h : ∀ w', Below w.heap.size w w' → K (a.put o.dst v) w') : o.wp P a w K Q :=
  wp_callC args args' hrun ha hc fun _ w' hh => ⟨v, hh.1, h w' hh.2⟩
/-- the same, the world being left alone. -/
theorem wp_callQ {P : Program} {f : FuncId} (args args' : Array Value) (v : Value) (hrun : (execOp a.eval o).run P w = .ok (.enter f args) w) (ha : args = args') (hc : Calls P f args' w fun e w' => e = .returned v ∧ w' = w)
    (h : K (a.put o.dst v) w) : o.wp P a w K Q :=
  wp_callC args args' hrun ha hc fun _ w' hh => ⟨v, hh.1, hh.2 ▸ h⟩
/-- an operation whose value is a closed fact. -/
theorem wp_value {P : Program} (v : Value) (hrun : (execOp a.eval o).run P w = .ok (.value v) w) (h : K (a.put o.dst v) w) : o.wp P a w K Q := by
  unfold Oper.wp; rw [hrun]; exact h
theorem wp_pick {P : Program} (c x y : Operand) (ho : o.op = .pick c x y) {b : Bool} (hc : a.eval c = .bool b) {v : Value} (hv : a.eval (if b then x else y) = v) (h : K (a.put o.dst v) w) : o.wp P a w K Q := by
  unfold Oper.wp execOp
  simp only [ho, hc, asBool, Sem.run_bind, Sem.run_pure, Result.andThen_ok]
  cases b <;> (simp only [if_true, if_false, Bool.false_eq_true] at hv ⊢; rw [hv]; exact h)
theorem wp_not {P : Program} (x : Operand) (t : TypeId) (ho : o.op = .unOp .not t x) {b : Bool} (hx : a.eval x = .bool b) (h : K (a.put o.dst (.bool (!b))) w) : o.wp P a w K Q := by
  unfold Oper.wp execOp
  simp only [ho, hx, Op.unary, Sem.run_bind, Sem.run_pure, Result.andThen_ok]
  exact h
/-- two numbers are compared. -/
theorem wp_neqN (x y : Operand) (z : TypeId) (ho : o.op = .binOp .neq 24 x y z) {p q : Nat} (hx : a.eval x = vE p) (hy : a.eval y = vE q) (h : K (a.put o.dst (.bool (!eqv p q))) w) : o.wp Try.prog a w K Q := by
  unfold Oper.wp execOp
  simp only [ho, hx, hy, Sem.run_bind, grdN, bin_neqN, Result.andThen_ok, Sem.run_pure]
  exact h
theorem wp_eqlN (x y : Operand) (z : TypeId) (ho : o.op = .binOp .eql 24 x y z) {p q : Nat} (hx : a.eval x = vE p) (hy : a.eval y = vE q) (h : K (a.put o.dst (.bool (eqv p q))) w) : o.wp Try.prog a w K Q := by
  unfold Oper.wp execOp
  simp only [ho, hx, hy, Sem.run_bind, grdN, bin_eqlN, Result.andThen_ok, Sem.run_pure]
  exact h
theorem wp_eqlB (x y : Operand) (t z : TypeId) (ho : o.op = .binOp .eql t x y z) (ht : Try.prog.underlying t = some .bool) {p q : Bool} (hx : a.eval x = .bool p) (hy : a.eval y = .bool q) (h : K (a.put o.dst (.bool (p == q))) w) : o.wp Try.prog a w K Q := by
  unfold Oper.wp execOp
  have hg : (eqGuard .eql t x y (.bool p) (.bool q)).run Try.prog w = .ok () w := by go_simp
  have hb : (binOp .eql t (.bool p) (.bool q)).run Try.prog w = .ok (.bool (p == q)) w := by go_simp
  simp only [ho, hx, hy, Sem.run_bind, hg, hb, Result.andThen_ok, Sem.run_pure]
  exact h
end
end Go.Proofs.Ytincemkjdgbnnaa
