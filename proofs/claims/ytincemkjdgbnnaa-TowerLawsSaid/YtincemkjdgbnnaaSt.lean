/- Memory of a call's own: a list of blocks that it has made, each known whole; what was there ahead of it is as it was. -/
import Derived.Test.YtincemkjdgbnnaaLoc
import Derived.Test.YtincemkjdgbnnaaFldP
set_option linter.unusedVariables false
set_option linter.unusedSimpArgs false
namespace Go.Proofs.Ytincemkjdgbnnaa
open Go.RowKit Lm

structure Cel where
  b : Nat
  t : TypeId
  cs : List Value

structure St (w0 w : World) (L : List Cel) : Prop where
  bl : Below w0.heap.size w0 w
  vb : ∀ (i : Nat) (c : Cel), L[i]? = some c → VB w c.b c.t c.cs
  lo : ∀ (i : Nat) (c : Cel), L[i]? = some c → w0.heap.size ≤ c.b
  ne : ∀ (i j : Nat) (c d : Cel), L[i]? = some c → L[j]? = some d → i ≠ j → c.b ≠ d.b

theorem St.start (w : World) : St w w [] := ⟨Below.refl _ _, fun i c h => by simp at h, fun i c h => by simp at h, fun i j c d h => by simp at h⟩
theorem St.next {w0 w w' : World} {L : List Cel} (h : St w0 w L) (hb : Below w.heap.size w w') : St w0 w' L :=
  ⟨below_next h.bl hb, fun i c hi => (h.vb i c hi).next hb, h.lo, h.ne⟩
theorem St.push {w0 w w' : World} {L : List Cel} {b : Nat} {t : TypeId} {cs : List Value} (h : St w0 w L) (hb : Below w.heap.size w w') (hl : w.heap.size ≤ b) (hv : VB w' b t cs) : St w0 w' (L ++ [⟨b, t, cs⟩]) := by
  have key : ∀ (i : Nat) (c : Cel), (L ++ [⟨b, t, cs⟩])[i]? = some c → (L[i]? = some c ∧ i < L.length) ∨ (i = L.length ∧ c = ⟨b, t, cs⟩) := fun i c hi => by
    rcases Nat.lt_or_ge i L.length with h1 | h1
    · rw [List.getElem?_append_left h1] at hi; exact .inl ⟨hi, h1⟩
    · rw [List.getElem?_append_right h1] at hi
      rcases Nat.eq_or_lt_of_le h1 with h2 | h2
      · rw [h2, Nat.sub_self] at hi
        exact .inr ⟨h2.symm, by simpa using hi.symm⟩
      · rw [List.getElem?_eq_none (by simp; omega)] at hi; cases hi
  have hold : ∀ (i : Nat) (c : Cel), L[i]? = some c → c.b < b := fun i c hi => Nat.lt_of_lt_of_le (h.vb i c hi).lt hl
  refine ⟨below_next h.bl hb, fun i c hi => ?_, fun i c hi => ?_, fun i j c d hi hj hne => ?_⟩
  · rcases key i c hi with ⟨h1, _⟩ | ⟨_, rfl⟩
    · exact (h.vb i c h1).next hb
    · exact hv
  · rcases key i c hi with ⟨h1, _⟩ | ⟨_, rfl⟩
    · exact h.lo i c h1
    · exact Nat.le_trans h.bl.size hl
  · rcases key i c hi with ⟨h1, _⟩ | ⟨e1, rfl⟩
    · rcases key j d hj with ⟨h2, _⟩ | ⟨_, rfl⟩
      · exact h.ne i j c d h1 h2 hne
      · have := hold i c h1
        intro e; rw [e] at this; exact Nat.lt_irrefl _ this
    · rcases key j d hj with ⟨h2, _⟩ | ⟨e2, rfl⟩
      · have := hold j d h2
        intro e; rw [← e] at this; exact Nat.lt_irrefl _ this
      · exact absurd (e1.trans e2.symm) hne
theorem St.set {w0 w w' : World} {L : List Cel} (h : St w0 w L) (i : Nat) {c : Cel} {cs : List Value} (hi : L[i]? = some c) (hv : VB w' c.b c.t cs) (ho : Only w w' c.b) : St w0 w' (L.set i ⟨c.b, c.t, cs⟩) := by
  have hil : i < L.length := (List.getElem?_eq_some_iff.1 hi).1
  have key : ∀ (j : Nat) (d : Cel), (L.set i ⟨c.b, c.t, cs⟩)[j]? = some d → (j ≠ i ∧ L[j]? = some d) ∨ (j = i ∧ d = ⟨c.b, c.t, cs⟩) := fun j d hj => by
    by_cases e : i = j
    · subst e
      rw [List.getElem?_set_self hil] at hj
      exact .inr ⟨rfl, by injection hj with hj; exact hj.symm⟩
    · rw [List.getElem?_set_ne e] at hj
      exact .inl ⟨fun h => e h.symm, hj⟩
  have hsame : ∀ (j : Nat) (d : Cel), (L.set i ⟨c.b, c.t, cs⟩)[j]? = some d → ∃ d', L[j]? = some d' ∧ d'.b = d.b := fun j d hj => by
    rcases key j d hj with ⟨_, h1⟩ | ⟨rfl, rfl⟩
    · exact ⟨d, h1, rfl⟩
    · exact ⟨c, hi, rfl⟩
  refine ⟨Only.below h.bl ho (h.lo i c hi), fun j d hj => ?_, fun j d hj => ?_, fun j k d e hj hk hne => ?_⟩
  · rcases key j d hj with ⟨h1, h2⟩ | ⟨rfl, rfl⟩
    · exact ho.vb (h.vb j d h2) (h.ne j i d c h2 hi h1)
    · exact hv
  · obtain ⟨d', h1, h2⟩ := hsame j d hj
    rw [← h2]; exact h.lo j d' h1
  · obtain ⟨d', h1, h2⟩ := hsame j d hj
    obtain ⟨e', h3, h4⟩ := hsame k e hk
    rw [← h2, ← h4]; exact h.ne j k d' e' h1 h3 hne
theorem St.snoc {w0 w : World} {L : List Cel} {b : Nat} {t : TypeId} {cs : List Value} (h : St w0 w L) (hl : w0.heap.size ≤ b) (hv : VB w b t cs) (hf : ∀ (i : Nat) (c : Cel), L[i]? = some c → c.b ≠ b) : St w0 w (L ++ [⟨b, t, cs⟩]) := by
  have key : ∀ (i : Nat) (c : Cel), (L ++ [⟨b, t, cs⟩])[i]? = some c → (L[i]? = some c ∧ i < L.length) ∨ (i = L.length ∧ c = ⟨b, t, cs⟩) := fun i c hi => by
    rcases Nat.lt_or_ge i L.length with h1 | h1
    · rw [List.getElem?_append_left h1] at hi; exact .inl ⟨hi, h1⟩
    · rw [List.getElem?_append_right h1] at hi
      rcases Nat.eq_or_lt_of_le h1 with h2 | h2
      · rw [h2, Nat.sub_self] at hi
        exact .inr ⟨h2.symm, by simpa using hi.symm⟩
      · rw [List.getElem?_eq_none (by simp; omega)] at hi; cases hi
  refine ⟨h.bl, fun i c hi => ?_, fun i c hi => ?_, fun i j c d hi hj hne => ?_⟩
  · rcases key i c hi with ⟨h1, _⟩ | ⟨_, rfl⟩
    · exact h.vb i c h1
    · exact hv
  · rcases key i c hi with ⟨h1, _⟩ | ⟨_, rfl⟩
    · exact h.lo i c h1
    · exact hl
  · rcases key i c hi with ⟨h1, _⟩ | ⟨e1, rfl⟩
    · rcases key j d hj with ⟨h2, _⟩ | ⟨_, rfl⟩
      · exact h.ne i j c d h1 h2 hne
      · exact hf i c h1
    · rcases key j d hj with ⟨h2, _⟩ | ⟨e2, rfl⟩
      · exact (hf j d h2).symm
      · exact absurd (e1.trans e2.symm) hne
/-- new blocks, each other than those behind it. -/
def NewL (w w' : World) : List Cel → Prop
  | [] => True
  | c :: r => w.heap.size ≤ c.b ∧ VB w' c.b c.t c.cs ∧ (∀ d, d ∈ r → c.b ≠ d.b) ∧ NewL w w' r
theorem St.pushL {w0 w w' : World} {L : List Cel} (h : St w0 w L) (hb : Below w.heap.size w w') (N : List Cel) (hN : NewL w w' N) : St w0 w' (L ++ N) := by
  have hlt : ∀ (i : Nat) (c : Cel), L[i]? = some c → c.b < w.heap.size := fun i c hi => (h.vb i c hi).lt
  have hle := h.bl.size
  have key : ∀ (N M : List Cel), NewL w w' N → St w0 w' (L ++ M) → (∀ (i : Nat) (c : Cel), (L ++ M)[i]? = some c → ∀ d, d ∈ N → c.b ≠ d.b) → St w0 w' (L ++ M ++ N) := by
    intro N
    induction N with
    | nil => intro M _ hM _; rwa [List.append_nil]
    | cons c r ih =>
      intro M hN hM hf
      obtain ⟨h1, h2, h3, h4⟩ := hN
      have hs := hM.snoc (b := c.b) (t := c.t) (cs := c.cs) (Nat.le_trans hle h1) h2 (fun i d hi => hf i d hi c List.mem_cons_self)
      have := ih (M ++ [c]) h4 (by rw [← List.append_assoc]; exact hs) (fun i d hi e he => by
        rw [← List.append_assoc] at hi
        rcases Nat.lt_or_ge i (L ++ M).length with h5 | h5
        · rw [List.getElem?_append_left h5] at hi
          exact hf i d hi e (List.mem_cons_of_mem _ he)
        · rw [List.getElem?_append_right h5] at hi
          have : d = c := by
            cases hq : i - (L ++ M).length with
            | zero => rw [hq] at hi; simpa using hi.symm
            | succ k => rw [hq] at hi; simp at hi
          subst this
          exact h3 e he)
      rw [show L ++ (M ++ [c]) ++ r = L ++ M ++ c :: r by simp] at this
      exact this
  have hmem : ∀ (N : List Cel), NewL w w' N → ∀ d, d ∈ N → w.heap.size ≤ d.b := by
    intro N
    induction N with
    | nil => intro _ d hd; cases hd
    | cons c r ih =>
      intro hN d hd
      rcases List.mem_cons.1 hd with rfl | hd
      · exact hN.1
      · exact ih hN.2.2.2 d hd
  have := key N [] hN (by rw [List.append_nil]; exact h.next hb) (fun i c hi d hd => by
    rw [List.append_nil] at hi
    have h1 := hlt i c hi
    have h2 := hmem N hN d hd
    omega)
  rwa [List.append_nil] at this
/-- the last blocks are forgotten. -/
theorem St.take {w0 w : World} {L : List Cel} (h : St w0 w L) (n : Nat) : St w0 w (L.take n) := by
  have key : ∀ (i : Nat) (c : Cel), (L.take n)[i]? = some c → L[i]? = some c := fun i c hi => by
    rw [List.getElem?_take] at hi
    split at hi
    · exact hi
    · cases hi
  exact ⟨h.bl, fun i c hi => h.vb i c (key i c hi), fun i c hi => h.lo i c (key i c hi), fun i j c d hi hj => h.ne i j c d (key i c hi) (key j d hj)⟩
/-- what lies below, seen from the beginning. -/
theorem St.old {w0 w : World} {L : List Cel} (h : St w0 w L) {b : Nat} {t : TypeId} {cs : List Value} (hv : VB w0 b t cs) : VB w b t cs := hv.next h.bl

section
variable {P : Program} {ops : Array Oper} {rest : List Oper} {o : Oper} {a : Act} {w w0 : World} {L : List Cel} {Q : Exit → Act → World → Prop} {K : Act → World → Prop}

theorem boxS (hgd : o.guard = none) (ty : TypeId) (x : Operand) (ho : o.op = .box ty x) (hS : St w0 w L) (cs : List Value) (hx : a.eval x = .agg cs.toArray)
    (h : ∀ w' b, St w0 w' (L ++ [⟨b, ty, cs⟩]) → wpList P ops Q rest (a.put o.dst (.pointer (some ⟨b, 0, none⟩))) w') : wpList P ops Q (o :: rest) a w :=
  wpList_box hgd ty x ho cs hx fun w' b h1 h2 h3 h4 => h w' b (hS.push h3 (by rw [h1]; exact Nat.le_refl _) h2)
theorem allocS (hgd : o.guard = none) (ty : TypeId) (ho : o.op = .alloc ty) (hS : St w0 w L) (cs : List Value) (hz : (P.info? ty).map (·.zero) = some (some (.agg cs.toArray)))
    (h : ∀ w' b, St w0 w' (L ++ [⟨b, ty, cs⟩]) → wpList P ops Q rest (a.put o.dst (.pointer (some ⟨b, 0, none⟩))) w') : wpList P ops Q (o :: rest) a w :=
  wpList_alloc hgd ty ho cs hz fun w' b h1 h2 h3 h4 => h w' b (hS.push h3 (by rw [h1]; exact Nat.le_refl _) h2)
theorem allocSN (hgd : o.guard = none) (ty : TypeId) (ho : o.op = .alloc ty) (hS : St w0 w L) (cs : List Value) (hz : (P.info? ty).map (·.zero) = some (some (.agg cs.toArray)))
    (h : ∀ w' b, St w0 w' (L ++ [⟨b, ty, cs⟩]) → w.heap.size ≤ b → Below w.heap.size w w' → wpList P ops Q rest (a.put o.dst (.pointer (some ⟨b, 0, none⟩))) w') : wpList P ops Q (o :: rest) a w :=
  wpList_alloc hgd ty ho cs hz fun w' b h1 h2 h3 h4 => h w' b (hS.push h3 (by rw [h1]; exact Nat.le_refl _) h2) (by rw [h1]; exact Nat.le_refl _) h3
/-- a part of a block is read: an operation. -/
theorem wpLd {n : Nat} (ty : TypeId) (x : Operand) (ho : o.op = .load ty x) {b : Nat} {t : TypeId} {cb : List Value} (hv : VB w b t cb) (off : Nat) (hx : a.eval x = .pointer (some ⟨b, off, none⟩)) (cs : List Value) (hcs : (cb.drop off).take n = cs) (hl : cs.length = n)
    {d : TypeDesc} (hu : P.underlying ty = some d) (hd : d.isRow = true) (hi : (P.info? ty).map (·.size) = some n) (h : K (a.put o.dst (.agg cs.toArray)) w) : o.wp P a w K Q :=
  wp_load_mid ty x ho b off hx cs d (fun j u hj => by
    rw [hv.cell]
    rw [← hcs, List.getElem?_take] at hj
    split at hj
    · rwa [List.getElem?_drop] at hj
    · cases hj) hu hd (by rw [hl]; exact hi) h
theorem loadS (hgd : o.guard = none) {n : Nat} (ty : TypeId) (x : Operand) (ho : o.op = .load ty x) (hS : St w0 w L) (i : Nat) {c : Cel} (hi : L[i]? = some c) (off : Nat) (hx : a.eval x = .pointer (some ⟨c.b, off, none⟩)) (cs : List Value) (hcs : (c.cs.drop off).take n = cs) (hl : cs.length = n)
    {d : TypeDesc} (hu : P.underlying ty = some d) (hd : d.isRow = true) (hz : (P.info? ty).map (·.size) = some n) (h : wpList P ops Q rest (a.put o.dst (.agg cs.toArray)) w) : wpList P ops Q (o :: rest) a w :=
  wpList_plain hgd fun K hK => wpLd ty x ho (hS.vb i c hi) off hx cs hcs hl hu hd hz (hK _ _ h)
/-- a part of a block is written. -/
theorem storeS (hgd : o.guard = none) {n : Nat} (ty : TypeId) (x y : Operand) (ho : o.op = .store ty x y) (hS : St w0 w L) (i : Nat) {c : Cel} (hi : L[i]? = some c) (off : Nat) (hx : a.eval x = .pointer (some ⟨c.b, off, none⟩)) (cs : List Value) (hy : a.eval y = .agg cs.toArray)
    (hl : cs.length = n) (h1 : cs.all (·.oneCell') = true) (hz : (P.info? ty).map (·.size) = some n) (hn : off + n ≤ c.cs.length) (cs' : List Value) (hcs : c.cs.take off ++ (cs ++ c.cs.drop (off + n)) = cs')
    (h : ∀ w', St w0 w' (L.set i ⟨c.b, c.t, cs'⟩) → wpList P ops Q rest (a.put o.dst undef) w') : wpList P ops Q (o :: rest) a w :=
  wpList_storeA hgd ty x y ho hx (hS.vb i c hi) cs hy (by rw [hl]; exact hz) h1 (by rw [hl]; exact hn) fun w' hv' ho' => h w' (hS.set i hi (by rw [hl, hcs] at hv'; exact hv') ho')
/-- the whole of a block is written. -/
theorem storeWS (hgd : o.guard = none) {n : Nat} (ty : TypeId) (x y : Operand) (ho : o.op = .store ty x y) (hS : St w0 w L) (i : Nat) {c : Cel} (hi : L[i]? = some c) (hx : a.eval x = .pointer (some ⟨c.b, 0, none⟩)) (cs : List Value) (hy : a.eval y = .agg cs.toArray)
    (hl : cs.length = n) (hl' : c.cs.length = n) (h1 : cs.all (·.oneCell') = true) (hz : (P.info? ty).map (·.size) = some n)
    (h : ∀ w', St w0 w' (L.set i ⟨c.b, c.t, cs⟩) → Hid (Only w w' c.b) → wpList P ops Q rest (a.put o.dst undef) w') : wpList P ops Q (o :: rest) a w :=
  wpList_storeW hgd ty x y ho hx (hS.vb i c hi) cs hy (by rw [hl]; exact hz) h1 (by rw [hl, hl']) fun w' hv' ho' => h w' (hS.set i hi hv' ho') (hide ho')
/-- a pointer to a new variable. -/
def PV (B : Nat) (t : TypeId) (cs : List Value) (v : Value) (w : World) : Prop := ∃ b, v = .pointer (some ⟨b, 0, none⟩) ∧ B ≤ b ∧ VB w b t cs
theorem PV.st {B : Nat} {t : TypeId} {cs : List Value} (v : Value) (w w' : World) (h : PV B t cs v w) (hb : Below w.heap.size w w') : PV B t cs v w' := by
  obtain ⟨b, h1, h2, h3⟩ := h
  exact ⟨b, h1, h2, h3.next hb⟩
theorem wp_alloc (ty : TypeId) (ho : o.op = .alloc ty) (cs : List Value) (hz : (P.info? ty).map (·.zero) = some (some (.agg cs.toArray))) {B : Nat} (hB : B ≤ w.heap.size)
    (h : ∀ v w', PV B ty cs v w' → Below w.heap.size w w' → K (a.put o.dst v) w') : o.wp P a w K Q := by
  have hz' : ∃ i, P.info? ty = some i ∧ i.zero = some (.agg cs.toArray) := by
    cases hq : P.info? ty with
    | none => rw [hq] at hz; cases hz
    | some i => rw [hq] at hz; exact ⟨i, rfl, by simpa using hz⟩
  obtain ⟨i, hi, hz2⟩ := hz'
  have hrun : ∀ old, (Instr.alloc ty true old).run P w = .ok (.pointer (some ⟨w.heap.size, 0, none⟩)) (w.alloc (.cells cs.toArray ty)) := fun old => by
    simp [Instr.alloc, zeroValue, typeInfo, hi, hz2, newVar, newRow, Value.cells]
  unfold Oper.wp execOp
  simp only [ho, Sem.run_bind, hrun, Result.andThen_ok, Sem.run_pure]
  exact h _ _ ⟨w.heap.size, rfl, hB, VB.new w ty cs⟩ (below_alloc (Below.refl _ _) _)
/-- the end of a function whose result is a block of its own. -/
theorem retS {fn : Func} {R : Ending → World → Prop} {p : Tmp} {ty : TypeId} (hr : fn.results = #[.cell p ty]) (hS : St w0 w L) (i : Nat) {c : Cel} (hi : L[i]? = some c) (hp : a.tmps.getD p undef = .pointer (some ⟨c.b, 0, none⟩)) {d : TypeDesc}
    (hu : P.underlying ty = some d) (hd : (match d with | .struct _ | .array _ _ => true | _ => false) = true) (hz : (P.info? ty).map (·.size) = some c.cs.length) (hdf : a.defers = []) (hR : R (.returned (.agg c.cs.toArray)) w) : bodyPost P fn R .ret a w :=
  bodyPost_cell hr hp (hS.vb i c hi) hu hd hz hdf hR
end
end Go.Proofs.Ytincemkjdgbnnaa
