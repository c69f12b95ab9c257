/- Words: arrays and structs by value, boxed, loaded, stored; each law over a world that stays a letter. -/
import Derived.Test.YtincemkjdgbnnaaNew
import Derived.Deep.MidRow
set_option linter.unusedVariables false
set_option linter.unusedSimpArgs false
namespace Go.Proofs.Ytincemkjdgbnnaa
open Go.RowKit Lm

section
variable {P : Program} {ops : Array Oper} {rest : List Oper} {o : Oper} {a : Act} {w : World} {Q : Exit → Act → World → Prop}

/-- 'box': a value of cells gets a block of its own. -/
theorem wpList_box (hgd : o.guard = none) (ty : TypeId) (x : Operand) (ho : o.op = .box ty x) (cs : List Value) (hx : a.eval x = .agg cs.toArray)
    (h : ∀ w' b, b = w.heap.size → VB w' b ty cs → Below w.heap.size w w' → w'.heap.size = b + 1 → wpList P ops Q rest (a.put o.dst (.pointer (some ⟨b, 0, none⟩))) w') : wpList P ops Q (o :: rest) a w := by
  refine wpList_plain hgd fun K hK => ?_
  unfold Oper.wp execOp
  simp only [ho, hx, Instr.box]
  exact hK _ _ (h (w.alloc (.cells cs.toArray ty)) w.heap.size rfl (VB.new w ty cs) (below_alloc (Below.refl _ _) _) (by simp))

/-- 'alloc' of a type of cells. -/
theorem wpList_alloc (hgd : o.guard = none) (ty : TypeId) (ho : o.op = .alloc ty) (cs : List Value) (hz : (P.info? ty).map (·.zero) = some (some (.agg cs.toArray)))
    (h : ∀ w' b, b = w.heap.size → VB w' b ty cs → Below w.heap.size w w' → w'.heap.size = b + 1 → wpList P ops Q rest (a.put o.dst (.pointer (some ⟨b, 0, none⟩))) w') : wpList P ops Q (o :: rest) a w := by
  refine wpList_plain hgd fun K hK => ?_
  have hz' : ∃ i, P.info? ty = some i ∧ i.zero = some (.agg cs.toArray) := by
    cases hq : P.info? ty with
    | none => rw [hq] at hz; cases hz
    | some i => rw [hq] at hz; exact ⟨i, rfl, by simpa using hz⟩
  obtain ⟨i, hi, hz2⟩ := hz'
  have hrun : ∀ old, (Instr.alloc ty true old).run P w = .ok (.pointer (some ⟨w.heap.size, 0, none⟩)) (w.alloc (.cells cs.toArray ty)) := fun old => by
    simp [Instr.alloc, zeroValue, typeInfo, hi, hz2, newVar, newRow, Value.cells]
  unfold Oper.wp execOp
  simp only [ho, Sem.run_bind, hrun, Result.andThen_ok, Sem.run_pure]
  exact hK _ _ (h (w.alloc (.cells cs.toArray ty)) w.heap.size rfl (VB.new w ty cs) (below_alloc (Below.refl _ _) _) (by simp))

/-- a variable of cells in the midst of a block is read. -/
theorem wpList_loadA (hgd : o.guard = none) (ty : TypeId) (x : Operand) (ho : o.op = .load ty x) {b off : Nat} (hx : a.eval x = .pointer (some ⟨b, off, none⟩)) {t : TypeId} {L : List Value} (hv : VB w b t L)
    {d : TypeDesc} (hu : P.underlying ty = some d) (hd : d.isRow = true) {n : Nat} (hi : (P.info? ty).map (·.size) = some n) (hn : off + n ≤ L.length)
    (h : wpList P ops Q rest (a.put o.dst (.agg ((L.drop off).take n).toArray)) w) : wpList P ops Q (o :: rest) a w := by
  refine wpList_plain hgd fun K hK => ?_
  have hrun := run_loadVar_mid (P := P) w b off ty ((L.drop off).take n) d (fun j v hj => by
    rw [hv.cell]
    rw [List.getElem?_take] at hj
    split at hj
    · rwa [List.getElem?_drop] at hj
    · cases hj) hu hd (by rw [hi]; simp; omega)
  unfold Oper.wp execOp
  simp only [ho, hx, Instr.loadAt, Instr.sureAddr, Sem.run_bind, Sem.run_pure, Result.andThen_ok, hrun]
  exact hK _ _ h

/-- the whole of a block is read. -/
theorem wpList_loadW (hgd : o.guard = none) (ty : TypeId) (x : Operand) (ho : o.op = .load ty x) {b : Nat} (hx : a.eval x = .pointer (some ⟨b, 0, none⟩)) {t : TypeId} {L : List Value} (hv : VB w b t L)
    {d : TypeDesc} (hu : P.underlying ty = some d) (hd : d.isRow = true) (hi : (P.info? ty).map (·.size) = some L.length)
    (h : wpList P ops Q rest (a.put o.dst (.agg L.toArray)) w) : wpList P ops Q (o :: rest) a w :=
  wpList_loadA hgd ty x ho hx hv hu hd hi (by omega) (by rw [List.drop_zero, List.take_length]; exact h)

/-- a variable of cells in the midst of a block is written. -/
theorem storeA_run {b off : Nat} {t : TypeId} {L : List Value} (hv : VB w b t L) {ty : TypeId} (cs : List Value) (hi : (P.info? ty).map (·.size) = some cs.length) (h1 : cs.all (·.oneCell') = true) (hn : off + cs.length ≤ L.length) :
    ∃ w', (Instr.storeAt ty (.pointer (some ⟨b, off, none⟩)) (.agg cs.toArray)).run P w = .ok () w' ∧ VB w' b t (L.take off ++ (cs ++ L.drop (off + cs.length))) ∧ Only w w' b := by
  refine ⟨w.setRow b (L.take off ++ cs ++ L.drop (off + cs.length)).toArray, ?_, ?_, ⟨rfl, rfl, rfl, by simp [World.setRow], fun i hi hne => setRow_other w b i _ (fun e => hne (by rw [e]))⟩⟩
  · have hst := run_storeCells_at P b off t cs 0 L.toArray w hv (by simpa using hn) (fun v hv => (List.all_eq_true.1 h1) v hv)
    simp only [Nat.add_zero] at hst
    cases hq : P.info? ty with
    | none => simp [hq] at hi
    | some i =>
      have hs : cs.length = i.size := by simp [hq] at hi; omega
      simp [Instr.storeAt, Instr.sureAddr, storeVar, sizeOf, typeInfo, hq, Value.cells, hs]
      rw [hs] at hst
      simpa using hst
  · unfold VB
    rw [setRow_heap w b _ _ t (0, 0) hv]
    simp
theorem wpList_storeA (hgd : o.guard = none) (ty : TypeId) (x y : Operand) (ho : o.op = .store ty x y) {b off : Nat} (hx : a.eval x = .pointer (some ⟨b, off, none⟩)) {t : TypeId} {L : List Value} (hv : VB w b t L)
    (cs : List Value) (hy : a.eval y = .agg cs.toArray) (hi : (P.info? ty).map (·.size) = some cs.length) (h1 : cs.all (·.oneCell') = true) (hn : off + cs.length ≤ L.length)
    (h : ∀ w', VB w' b t (L.take off ++ (cs ++ L.drop (off + cs.length))) → Only w w' b → wpList P ops Q rest (a.put o.dst undef) w') : wpList P ops Q (o :: rest) a w := by
  refine wpList_plain hgd fun K hK => ?_
  obtain ⟨w', hrun, hv', ho'⟩ := storeA_run (P := P) hv cs hi h1 hn
  unfold Oper.wp execOp
  simp only [ho, hx, hy, Sem.run_bind, hrun, Result.andThen_ok, Sem.run_pure]
  exact hK _ _ (h w' hv' ho')

/-- the whole of a block is written. -/
theorem wpList_storeW (hgd : o.guard = none) (ty : TypeId) (x y : Operand) (ho : o.op = .store ty x y) {b : Nat} (hx : a.eval x = .pointer (some ⟨b, 0, none⟩)) {t : TypeId} {L : List Value} (hv : VB w b t L)
    (cs : List Value) (hy : a.eval y = .agg cs.toArray) (hi : (P.info? ty).map (·.size) = some cs.length) (h1 : cs.all (·.oneCell') = true) (hn : cs.length = L.length)
    (h : ∀ w', VB w' b t cs → Only w w' b → wpList P ops Q rest (a.put o.dst undef) w') : wpList P ops Q (o :: rest) a w :=
  wpList_storeA hgd ty x y ho hx hv cs hy hi h1 (by omega) fun w' hv' ho' => h w' (by
    rw [hn, Nat.zero_add, List.take_zero, List.nil_append, List.drop_length, List.append_nil] at hv'
    exact hv') ho'
end

/-- the end of a function whose result lies in a block of cells. -/
theorem bodyPost_cell {P : Program} {fn : Func} {R : Ending → World → Prop} {a : Act} {w : World} {p : Tmp} {ty : TypeId} (hr : fn.results = #[.cell p ty]) {b : Nat} (hp : a.tmps.getD p undef = .pointer (some ⟨b, 0, none⟩))
    {t : TypeId} {L : List Value} (hv : VB w b t L) {d : TypeDesc} (hu : P.underlying ty = some d) (hd : (match d with | .struct _ | .array _ _ => true | _ => false) = true) (hi : (P.info? ty).map (·.size) = some L.length)
    (hdf : a.defers = []) (hR : R (.returned (.agg L.toArray)) w) : bodyPost P fn R .ret a w :=
  bodyPost_ret (results_cell_row hr a.tmps w b t L.toArray (0, 0) d hp hv hu hd (by simpa using hi)) hdf hR

/-- an element: six limbs. -/
def ve (x : Nat) : List Value := nums .u64 (fix B64 6 x)
def vE (x : Nat) : Value := .agg (ve x).toArray
theorem ve_length (x : Nat) : (ve x).length = 6 := by simp [ve, nums, fix_length]
theorem ve_one (x : Nat) : (ve x).all (·.oneCell') = true := rfl
end Go.Proofs.Ytincemkjdgbnnaa
