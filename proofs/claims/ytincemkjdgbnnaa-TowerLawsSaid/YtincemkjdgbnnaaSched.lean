/- Regions that draw their order: each operation yields a value of which a fact is known, whenever it comes up; the blocks that are there stay as they are, until the last operations, which wait for all others. -/
import Derived.Test.YtincemkjdgbnnaaFldP
import Derived.Deep.MidRow
set_option linter.unusedVariables false
set_option linter.unusedSimpArgs false
namespace Go.Proofs.Ytincemkjdgbnnaa
open Go.RowKit

/-- what is known of an operation's value, in the world behind it and in each later one. -/
abbrev Fact := Value → World → Prop
/-- what an operation may do to the world: new blocks, and, where a block is named, write into that block. -/
def Rl : Option Nat → World → World → Prop
  | none, w, w' => Below w.heap.size w w'
  | some b, w, w' => Only w w' b
theorem Rl.of_below {w w' : World} (h : Below w.heap.size w w') : ∀ ex : Option Nat, Rl ex w w'
  | none => h
  | some b => Only.of_below h
theorem Rl.trans {ex : Option Nat} {w w1 w2 : World} (h : Rl ex w w1) (k : Rl ex w1 w2) : Rl ex w w2 := by
  cases ex with
  | none => exact below_then h h.size k
  | some b => exact Only.trans h k
def Fact.stable (al : Option Nat) (G : Fact) : Prop := ∀ v w w', G v w → Rl al w w' → G v w'
theorem Fact.stable.weak {al : Option Nat} {G : Fact} (h : G.stable al) : G.stable none := fun v w w' hG hb => h v w w' hG (Rl.of_below hb al)
def factAt (Gs : List Fact) (i : Nat) : Fact := (Gs[i]?).getD fun _ _ => True

section
variable (P : Program) (ops : Array Oper) (Q : Exit → Act → World → Prop)

/-- the block that an operation writes into, if it is the one that is named. -/
def exAt (st : Nat) (al : Option Nat) (i : Nat) : Option Nat := if i = st then al else none
def dstAt (i : Nat) : Option Tmp := (ops[i]?).bind (·.dst)
def waits (i : Nat) : List Nat := ((ops[i]?).map fun o => (o.after.toList.filter fun e => Region.binds .any e).map (·.on)).getD []

/-- an operation's value, out of the frame. -/
def slotOf (i : Nat) (a : Act) : Value := match dstAt ops i with | some d => a.tmps.getD d undef | none => undef
/-- the facts of some operations, their values being in the frame. -/
def Known (Gs : List Fact) (a : Act) (w : World) : List Nat → Prop
  | [] => True
  | k :: r => factAt Gs k (slotOf ops k a) w ∧ Known Gs a w r

/-- what is asked of an operation ahead of the last ones. -/
def Obl (Gs : List Fact) (Fr : Act → Prop) (C C0 : World → Prop) (st : Nat) (al : Option Nat) (i : Nat) : Prop :=
  ∀ o, ops[i]? = some o → ∀ a w, Fr a → C w → (i = st → C0 w) → Known ops Gs a w (waits ops i) → ∀ K : Act → World → Prop,
    (∀ v w', factAt Gs i v w' → Rl (exAt st al i) w w' → K (a.put o.dst v) w') →
    if Region.wanted o (yielded ops a.tmps) = true then o.wp P a w K Q else K (a.put o.dst undef) w
def Obls (p : Nat → Prop) : Nat → Nat → Prop
  | 0, _ => True
  | n + 1, k => p k ∧ Obls p n (k + 1)
theorem Obls.get {p : Nat → Prop} : ∀ {n k : Nat}, Obls p n k → ∀ i, k ≤ i → i < k + n → p i
  | 0, k, _, i, h1, h2 => by omega
  | n + 1, k, h, i, h1, h2 => by
    rcases Nat.eq_or_lt_of_le h1 with e | e
    · subst e; exact h.1
    · exact h.2.get i e (by omega)
theorem Obls.nil {p : Nat → Prop} {k : Nat} : Obls p 0 k := trivial
theorem Obls.cons {p : Nat → Prop} {n k : Nat} (h : p k) (hr : Obls p n (k + 1)) : Obls p (n + 1) k := ⟨h, hr⟩

/-- the frame behind the first operations, in the order of the text. -/
def Fin (K : Act → World → Prop) (w : World) : List Oper → List Fact → Act → Prop
  | o :: r, G :: s, a => ∀ v, G v w → Fin K w r s (a.put o.dst v)
  | _, _, a => K a w

/-- j waits for i, or for one that does. -/
inductive WReach : Nat → Nat → Prop
  | here {j i : Nat} (h : i ∈ waits ops j) : WReach j i
  | step {j t i : Nat} (h : t ∈ waits ops j) (hr : WReach t i) : WReach j i
def reachB : Nat → Nat → Nat → Bool
  | 0, j, i => (waits ops j).contains i
  | f + 1, j, i => (waits ops j).contains i || (waits ops j).any fun t => reachB f t i
/-- what is done: all that it waits for is done. -/
def Closed (l : Array Bool) : Prop := ∀ i, l.getD i false = true → ∀ k ∈ waits ops i, l.getD k false = true
/-- the order's conditions: the first m operations wait for earlier ones only, each has a slot of its own; each of the last ones waits for all ahead of it. -/
def schedOk (m n : Nat) : Bool :=
  decide (m ≤ ops.size) &&
  ((List.range m).all (fun i => (match dstAt ops i with | some d => decide (d < n) && (List.range i).all fun j => decide (dstAt ops i ≠ dstAt ops j) | none => true)) &&
  (List.range ops.size).all fun j => (waits ops j).all (fun k => decide (k < j)) && (decide (j < m) || (List.range j).all fun i => reachB ops 3 j i))
end

section
variable {P : Program} {ops : Array Oper} {Q : Exit → Act → World → Prop}

theorem reachB_spec : ∀ {f j i : Nat}, reachB ops f j i = true → WReach ops j i
  | 0, j, i, h => .here (by simpa [reachB] using h)
  | f + 1, j, i, h => by
    rw [reachB, Bool.or_eq_true] at h
    rcases h with h | h
    · exact .here (by simpa using h)
    · obtain ⟨t, ht, h2⟩ := List.any_eq_true.1 h
      exact .step ht (reachB_spec h2)
theorem WReach.le {j i : Nat} (h : WReach ops j i) (hd : ∀ i, i < ops.size → ∀ k ∈ waits ops i, k < i) : j < ops.size → ∃ t ∈ waits ops j, i ≤ t := by
  induction h with
  | here h => exact fun _ => ⟨_, h, Nat.le_refl _⟩
  | @step j t i h hr ih =>
    intro hj
    have := hd j hj t h
    obtain ⟨u, hu, hle⟩ := ih (by omega)
    have := hd t (by omega) u hu
    exact ⟨t, h, by omega⟩
theorem WReach.done {l : Array Bool} {j i : Nat} (h : WReach ops j i) (hc : Closed ops l) : (∀ t ∈ waits ops j, l.getD t false = true) → l.getD i false = true := by
  induction h with
  | here h => exact fun hj => hj _ h
  | step h hr ih => exact fun hj => ih fun t ht => hc _ (hj _ h) t ht

/-- how many of the first m are not yet listed. -/
def cntOff (l : Array Bool) : Nat → Nat
  | 0 => 0
  | m + 1 => cntOff l m + (if l.getD m true = true then 0 else 1)
theorem getD_set_self (l : Array Bool) (i : Nat) (d : Bool) (h : i < l.size) : (l.setIfInBounds i true).getD i d = true := by
  simp [Array.getD_eq_getD_getElem?, h]
theorem getD_set_other {l : Array Bool} {i j : Nat} {d : Bool} (h : i ≠ j) : (l.setIfInBounds i true).getD j d = l.getD j d := by
  simp [Array.getD_eq_getD_getElem?, Array.getElem?_setIfInBounds, h]
theorem Closed.set {l : Array Bool} {i : Nat} (hc : Closed ops l) (h3 : ∀ k ∈ waits ops i, l.getD k false = true) : Closed ops (l.setIfInBounds i true) := fun x hx k hk => by
  have key : l.getD k false = true → (l.setIfInBounds i true).getD k false = true := fun h => by
    by_cases e : i = k
    · subst e
      refine getD_set_self _ _ _ ?_
      rcases Nat.lt_or_ge i l.size with h1 | h1
      · exact h1
      · simp [Array.getD_eq_getD_getElem?, h1] at h
    · rw [getD_set_other e]; exact h
  by_cases e : i = x
  · subst e; exact key (h3 k hk)
  · rw [getD_set_other e] at hx; exact key (hc x hx k hk)
theorem Closed.none (n : Nat) : Closed ops (Array.replicate n false) := fun i hi => by
  rw [Array.getD_eq_getD_getElem?, Array.getElem?_replicate] at hi
  split at hi <;> simp at hi
theorem cntOff_ge {l : Array Bool} {i : Nat} : ∀ {m : Nat}, m ≤ i → cntOff (l.setIfInBounds i true) m = cntOff l m
  | 0, _ => rfl
  | m + 1, h => by rw [cntOff, cntOff, cntOff_ge (by omega), getD_set_other (by omega)]
theorem cntOff_lt {l : Array Bool} {i : Nat} (hi : i < l.size) (h0 : l.getD i true = false) : ∀ {m : Nat}, i < m → cntOff (l.setIfInBounds i true) m + 1 = cntOff l m
  | 0, h => by omega
  | m + 1, h => by
    rcases Nat.lt_or_ge i m with h1 | h1
    · have := cntOff_lt hi h0 h1
      rw [cntOff, cntOff, getD_set_other (by omega), ← this]; omega
    · obtain rfl : i = m := by omega
      rw [cntOff, cntOff, cntOff_ge (Nat.le_refl _), getD_set_self _ _ _ hi, h0]; simp
theorem cntOff_zero {l : Array Bool} : ∀ {m : Nat}, cntOff l m = 0 → ∀ i, i < m → l.getD i true = true
  | 0, _, i, h => by omega
  | m + 1, h0, i, h => by
    rw [cntOff] at h0
    have h1 : l.getD m true = true := by
      by_cases h2 : l.getD m true = true
      · exact h2
      · rw [if_neg h2] at h0; omega
    rcases Nat.lt_or_ge i m with h2 | h2
    · exact cntOff_zero (m := m) (by omega) i h2
    · obtain rfl : i = m := by omega
      exact h1
theorem cntOff_le {l : Array Bool} : ∀ m : Nat, cntOff l m ≤ m
  | 0 => Nat.le_refl _
  | m + 1 => by rw [cntOff]; have := cntOff_le (l := l) m; split <;> omega
/-- the least one that is not listed. -/
theorem least_off {l : Array Bool} : ∀ {m : Nat}, cntOff l m ≠ 0 → ∃ i, i < m ∧ l.getD i true = false ∧ ∀ j, j < i → l.getD j true = true
  | 0, h => absurd rfl h
  | m + 1, h => by
    by_cases h0 : cntOff l m = 0
    · refine ⟨m, by omega, ?_, cntOff_zero h0⟩
      rw [cntOff, h0] at h
      by_cases h2 : l.getD m true = true
      · rw [if_pos h2] at h; omega
      · simpa using h2
    · obtain ⟨i, h1, h2, h3⟩ := least_off h0
      exact ⟨i, by omega, h2, h3⟩

theorem mem_waits {i : Nat} {o : Oper} (ho : ops[i]? = some o) {k : Nat} : k ∈ waits ops i ↔ ∃ e ∈ o.after, Region.binds .any e = true ∧ e.on = k := by
  unfold waits
  rw [ho]
  simp only [Option.map_some, Option.getD_some, List.mem_map, List.mem_filter, Array.mem_toList_iff]
  constructor
  · rintro ⟨e, ⟨h1, h2⟩, h3⟩; exact ⟨e, h1, h2, h3⟩
  · rintro ⟨e, h1, h2, h3⟩; exact ⟨e, ⟨h1, h2⟩, h3⟩
/-- what comes up: what is not listed, and waits for nothing that is not listed. -/
theorem ready_iff {l : Array Bool} {i : Nat} : i ∈ Region.ready .any ops l ↔ l.getD i true = false ∧ i < ops.size ∧ ∀ k ∈ waits ops i, l.getD k false = true := by
  unfold Region.ready
  rw [List.mem_filter, List.mem_range]
  constructor
  · rintro ⟨h1, h2⟩
    rw [Bool.and_eq_true] at h2
    refine ⟨by simpa using h2.1, h1, fun k hk => ?_⟩
    have ho : ops[i]? = some ops[i] := Array.getElem?_eq_getElem h1
    rw [ho] at h2
    simp only [Option.map_some, Option.getD_some] at h2
    obtain ⟨e, he, hb, rfl⟩ := (mem_waits ho).1 hk
    have := (Array.all_eq_true_iff_forall_mem.1 h2.2) e he
    simpa [hb] using this
  · rintro ⟨h1, h2, h3⟩
    refine ⟨h2, ?_⟩
    have ho : ops[i]? = some ops[i] := Array.getElem?_eq_getElem h2
    rw [Bool.and_eq_true, ho]
    refine ⟨by simpa using h1, ?_⟩
    simp only [Option.map_some, Option.getD_some]
    refine Array.all_eq_true_iff_forall_mem.2 fun e he => ?_
    by_cases hb : Region.binds .any e = true
    · have := h3 e.on ((mem_waits ho).2 ⟨e, he, hb, rfl⟩)
      simp [this]
    · simp [hb]

structure SchedOk (ops : Array Oper) (m n : Nat) : Prop where
  le : m ≤ ops.size
  dst : ∀ i, i < m → ∀ d, dstAt ops i = some d → d < n
  ne : ∀ i j, i < m → j < m → i ≠ j → ∀ d, dstAt ops i = some d → dstAt ops j ≠ some d
  dag : ∀ i, i < ops.size → ∀ k ∈ waits ops i, k < i
  last : ∀ j, m ≤ j → j < ops.size → ∀ i, i < j → WReach ops j i
theorem schedOk_spec {m n : Nat} (h : schedOk ops m n = true) : SchedOk ops m n := by
  unfold schedOk at h
  rw [Bool.and_eq_true, Bool.and_eq_true] at h
  obtain ⟨h0, h1, h2⟩ := h
  have hlt : ∀ i j, i < m → j < i → ∀ d, dstAt ops i = some d → d < n ∧ dstAt ops j ≠ some d := fun i j hi hj d hd => by
    have := (List.all_eq_true.1 h1) i (List.mem_range.2 hi)
    rw [hd] at this
    simp only [Bool.and_eq_true] at this
    exact ⟨of_decide_eq_true this.1, fun e => of_decide_eq_true ((List.all_eq_true.1 this.2) j (List.mem_range.2 hj)) e.symm⟩
  refine ⟨of_decide_eq_true h0, fun i hi d hd => ?_, fun i j hi hj hne d hd => ?_, fun i hi k hk => ?_, fun j hj hjs i hi => ?_⟩
  · have := (List.all_eq_true.1 h1) i (List.mem_range.2 hi)
    rw [hd] at this
    simp only [Bool.and_eq_true] at this
    exact of_decide_eq_true this.1
  · rcases Nat.lt_or_ge i j with h | h
    · exact fun e => (hlt j i hj h d e).2 hd
    · exact (hlt i j hi (by omega) d hd).2
  · have := (List.all_eq_true.1 h2) i (List.mem_range.2 hi)
    rw [Bool.and_eq_true] at this
    exact of_decide_eq_true ((List.all_eq_true.1 this.1) k hk)
  · have := (List.all_eq_true.1 h2) j (List.mem_range.2 hjs)
    rw [Bool.and_eq_true, Bool.or_eq_true] at this
    rcases this.2 with h3 | h3
    · exact absurd (of_decide_eq_true h3) (by omega)
    · exact reachB_spec ((List.all_eq_true.1 h3) i (List.mem_range.2 hi))

theorem getD_dflt {l : Array Bool} {i : Nat} (h : i < l.size) : l.getD i false = l.getD i true := by
  simp [Array.getD_eq_getD_getElem?, h]

/-- the last operations, one behind the other. -/
theorem post_any {m n : Nat} (hs : SchedOk ops m n) : ∀ (r : List Oper) (k : Nat) (l : Array Bool) (fuel : Nat) (a : Act) (w : World), (∀ j, r[j]? = ops[k + j]?) → m ≤ k → l.size = ops.size →
    (∀ i, i < ops.size → l.getD i true = decide (i < k)) → r.length ≤ fuel → wpList P ops Q r a w → wpAny P .any ops Q fuel l a w
  | [], k, l, fuel, a, w, hr, hm, hl, hk, hf, h => by
    have hge : ops.size ≤ k := by
      have := (hr 0).symm
      rw [Nat.add_zero, List.getElem?_nil] at this
      exact Array.getElem?_eq_none_iff.1 this
    have hno : ∀ i, i ∉ Region.ready .any ops l := fun i hi => by
      obtain ⟨h1, h2, _⟩ := ready_iff.1 hi
      rw [hk i h2, decide_eq_false_iff_not] at h1
      omega
    have hnil : Region.ready .any ops l = [] := List.eq_nil_iff_forall_not_mem.2 hno
    cases fuel with
    | zero => exact ⟨hnil, h⟩
    | succ f => exact ⟨fun _ => h, fun i hi => absurd hi (hno i)⟩
  | o :: r, k, l, fuel, a, w, hr, hm, hl, hk, hf, h => by
    have ho : ops[k]? = some o := by simpa using (hr 0).symm
    have hks : k < ops.size := (Array.getElem?_eq_some_iff.1 ho).1
    have hone : ∀ i, i ∈ Region.ready .any ops l → i = k := fun i hi => by
      obtain ⟨h1, h2, h3⟩ := ready_iff.1 hi
      rw [hk i h2, decide_eq_false_iff_not] at h1
      rcases Nat.eq_or_lt_of_le (Nat.le_of_not_lt h1) with e | e
      · exact e.symm
      · obtain ⟨t, ht, hkt⟩ := (hs.last i (by omega) h2 k e).le hs.dag h2
        have := h3 t ht
        have htl := hs.dag i h2 t ht
        rw [getD_dflt (by omega), hk t (by omega), decide_eq_true_eq] at this
        omega
    have hin : k ∈ Region.ready .any ops l := ready_iff.2 ⟨by rw [hk k hks]; simp, hks, fun j hj => by
      have := hs.dag k hks j hj
      rw [getD_dflt (by omega), hk j (by omega)]; simpa using this⟩
    cases fuel with
    | zero => simp at hf
    | succ f =>
      refine ⟨fun h0 => (by rw [h0] at hin; cases hin), fun i hi => ?_⟩
      obtain rfl := hone i hi
      have h1 : wpOp P ops Q i (wpList P ops Q r) a w := by
        unfold wpOp; rw [ho]; exact h
      refine wpOp_mono (fun a' w' h' => post_any hs r (i + 1) _ f a' w' (fun j => by have := hr (j + 1); simpa [Nat.add_assoc, Nat.add_comm 1 j] using this) (by omega) (by simpa using hl) (fun j hj => ?_) (by simp at hf; omega) h') h1
      by_cases hji : i = j
      · subst hji; rw [getD_set_self _ _ _ (by omega)]; simp
      · rw [getD_set_other hji, hk j hj]
        congr 1
        exact propext ⟨fun h => by omega, fun h => by omega⟩

theorem put_getD_self {a : Act} {d : Tmp} {v : Value} (h : d < a.tmps.size) : (a.put (some d) v).tmps.getD d undef = v := by
  simp [Act.put, Array.getD_eq_getD_getElem?, h]
theorem put_getD_other {a : Act} {d t : Tmp} {v : Value} (h : d ≠ t) : (a.put (some d) v).tmps.getD t undef = a.tmps.getD t undef := by
  simp [Act.put, Array.getD_eq_getD_getElem?, Array.getElem?_setIfInBounds, h]
theorem put_size (a : Act) (d : Option Tmp) (v : Value) : (a.put d v).tmps.size = a.tmps.size := by
  cases d <;> simp [Act.put]
theorem put_defers (a : Act) (d : Option Tmp) (v : Value) : (a.put d v).defers = a.defers := by
  cases d <;> simp [Act.put]
theorem act_ext {a b : Act} (h1 : a.defers = b.defers) (h2 : a.tmps.size = b.tmps.size) (h3 : ∀ t, a.tmps.getD t undef = b.tmps.getD t undef) : a = b := by
  obtain ⟨t1, d1⟩ := a
  obtain ⟨t2, d2⟩ := b
  simp only at h1 h2 h3
  subst h1
  congr 1
  apply Array.ext h2
  intro i hi hj
  have := h3 i
  simpa [Array.getD_eq_getD_getElem?, hi, hj] using this

theorem known_of {Gs : List Fact} {a : Act} {w : World} : ∀ (l : List Nat), (∀ k ∈ l, factAt Gs k (slotOf ops k a) w) → Known ops Gs a w l
  | [], _ => trivial
  | k :: r, h => ⟨h k (List.mem_cons_self ..), known_of r fun j hj => h j (List.mem_cons_of_mem _ hj)⟩

/-- the frame out of the values. -/
theorem fin_get {m n : Nat} (hs : SchedOk ops m n) {Gs : List Fact} {K : Act → World → Prop} {a : Act} {w : World} (hn : a.tmps.size = n) (hf : ∀ i, i < m → factAt Gs i (slotOf ops i a) w) :
    ∀ (r : List Oper) (s : List Fact) (k : Nat) (b : Act), (∀ j, j < r.length → r[j]? = ops[k + j]?) → (∀ j, j < s.length → s[j]? = Gs[k + j]?) → r.length = s.length → k + r.length = m → b.defers = a.defers → b.tmps.size = a.tmps.size →
      (∀ t, (∀ i, k ≤ i → i < m → dstAt ops i ≠ some t) → b.tmps.getD t undef = a.tmps.getD t undef) → Fin K w r s b → K a w
  | [], [], k, b, _, _, _, hkm, hd, hsz, hag, h => by
    have hk : k = m := by simpa using hkm
    have : b = a := act_ext hd hsz fun t => hag t fun i h1 h2 => absurd h2 (by omega)
    subst this; exact h
  | o :: r, G :: s, k, b, hr, hG, hl, hkm, hd, hsz, hag, h => by
    have ho : ops[k]? = some o := by simpa using (hr 0 (by simp)).symm
    have hg : Gs[k]? = some G := by simpa using (hG 0 (by simp)).symm
    simp only [List.length_cons] at hkm hl
    have hdo : dstAt ops k = o.dst := by unfold dstAt; rw [ho]; rfl
    have hv := hf k (by omega)
    have hv' : G (slotOf ops k a) w := by unfold factAt at hv; rw [hg] at hv; exact hv
    have h1 := h (slotOf ops k a) hv'
    refine fin_get hs hn hf r s (k + 1) _ (fun j hj => ?_) (fun j hj => ?_) (by omega) (by omega) (by rw [put_defers, hd]) (by rw [put_size, hsz]) (fun t ht => ?_) h1
    · have := hr (j + 1) (by simp; omega)
      simpa [Nat.add_assoc, Nat.add_comm 1 j] using this
    · have := hG (j + 1) (by simp; omega)
      simpa [Nat.add_assoc, Nat.add_comm 1 j] using this
    · have hrest : (∀ i, k ≤ i → i < m → dstAt ops i ≠ some t) ∨ dstAt ops k = some t := by
        by_cases e : dstAt ops k = some t
        · exact .inr e
        · refine .inl fun i h1 h2 => ?_
          rcases Nat.eq_or_lt_of_le h1 with e' | e'
          · subst e'; exact e
          · exact ht i e' h2
      rcases hrest with h2 | h2
      · have h3 : ∀ d, o.dst = some d → d ≠ t := fun d hd e => h2 k (Nat.le_refl _) (by omega) (by rw [hdo, hd, e])
        cases hod : o.dst with
        | none => exact hag t h2
        | some d => rw [put_getD_other (h3 d hod)]; exact hag t h2
      · rw [hdo] at h2
        rw [h2, put_getD_self (by rw [hsz, hn]; exact hs.dst k (by omega) t (by rw [hdo, h2]))]
        unfold slotOf; rw [hdo, h2]
  | [], G :: s, k, b, _, _, hl, _, _, _, _, _ => by simp at hl
  | o :: r, [], k, b, _, _, hl, _, _, _, _, _ => by simp at hl

/-- the first operations, in whatever order. -/
theorem pre_any {m n : Nat} (hs : SchedOk ops m n) {Gs : List Fact} {Fr : Act → Prop} {C C0 : World → Prop} {st : Nat} {al : Option Nat} {a0 : Act} {w0 : World} (hn : a0.tmps.size = n)
    (hst : ∀ i, (i ≠ st → (factAt Gs i).stable al) ∧ (factAt Gs i).stable none) (hNone : ∀ i v w, dstAt ops i = none → factAt Gs i v w → factAt Gs i undef w)
    (hC : ∀ w', Rl al w0 w' → C w') (hC0 : ∀ w', Below w0.heap.size w0 w' → C0 w') (hFr : ∀ a, (∀ t, (∀ i, i < m → dstAt ops i ≠ some t) → a.tmps.getD t undef = a0.tmps.getD t undef) → Fr a)
    (hO : ∀ i, i < m → Obl P ops Q Gs Fr C C0 st al i)
    (hfin : ∀ a w, Rl al w0 w → a.defers = a0.defers → a.tmps.size = n → (∀ t, (∀ i, i < m → dstAt ops i ≠ some t) → a.tmps.getD t undef = a0.tmps.getD t undef) →
      (∀ i, i < m → factAt Gs i (slotOf ops i a) w) → wpList P ops Q (ops.toList.drop m) a w) :
    ∀ (p : Nat) (l : Array Bool) (fuel : Nat) (a : Act) (w : World), cntOff l m = p → l.size = ops.size → (∀ i, m ≤ i → i < ops.size → l.getD i true = false) → p + (ops.size - m) ≤ fuel →
      Rl al w0 w → a.defers = a0.defers → a.tmps.size = n → (∀ t, (∀ i, i < m → dstAt ops i ≠ some t) → a.tmps.getD t undef = a0.tmps.getD t undef) →
      (∀ i, i < m → l.getD i true = true → factAt Gs i (slotOf ops i a) w) → (l.getD st true = false → Below w0.heap.size w0 w) → Closed ops l → wpAny P .any ops Q fuel l a w
  | 0, l, fuel, a, w, hp, hl, hpost, hfu, hB, hd, hsz, hag, hf, hB0, hcl => by
    have hall := cntOff_zero hp
    refine post_any hs (ops.toList.drop m) m l fuel a w (fun j => by rw [List.getElem?_drop, Array.getElem?_toList]) (Nat.le_refl _) hl (fun i hi => ?_) (by simp; omega)
      (hfin a w hB hd hsz hag fun i hi => hf i hi (hall i hi))
    by_cases him : i < m
    · rw [hall i him]; simpa using him
    · rw [hpost i (by omega) hi]; simpa using him
  | p + 1, l, fuel, a, w, hp, hl, hpost, hfu, hB, hd, hsz, hag, hf, hB0, hcl => by
    obtain ⟨i0, h1, h2, h3⟩ := least_off (l := l) (m := m) (by omega)
    have hi0 : i0 < ops.size := Nat.lt_of_lt_of_le h1 hs.le
    have hin : i0 ∈ Region.ready .any ops l := ready_iff.2 ⟨h2, hi0, fun k hk => by
      have := hs.dag i0 hi0 k hk
      rw [getD_dflt (by omega)]; exact h3 k this⟩
    cases fuel with
    | zero => omega
    | succ f =>
      refine ⟨fun h0 => (by rw [h0] at hin; cases hin), fun i hi => ?_⟩
      obtain ⟨g1, g2, g3⟩ := ready_iff.1 hi
      have him : i < m := by
        rcases Nat.lt_or_ge i m with h | h
        · exact h
        · have := (hs.last i h g2 i0 (by omega)).done hcl g3
          rw [getD_dflt (by omega), h2] at this
          cases this
      have ho : ops[i]? = some ops[i] := Array.getElem?_eq_getElem g2
      have hod : dstAt ops i = ops[i].dst := by unfold dstAt; rw [ho]; rfl
      refine wpOp_step ho fun K' hK => ?_
      refine hO i him _ ho a w (hFr a hag) (hC w hB) (fun e => hC0 w (hB0 (by rw [← e]; exact g1))) (known_of _ fun k hk => ?_) K' fun v w' hG hB' => hK _ _ ?_
      · have hki := hs.dag i g2 k hk
        exact hf k (by omega) (by rw [← getD_dflt (by omega)]; exact g3 k hk)
      · have hB'' : Rl al w w' := by
          unfold exAt at hB'
          split at hB'
          · exact hB'
          · exact Rl.of_below hB' al
        have hc := cntOff_lt (i := i) (by omega) g1 him
        refine pre_any hs hn hst hNone hC hC0 hFr hO hfin p _ f _ w' (by omega) (by simpa using hl) (fun j hj1 hj2 => by rw [getD_set_other (by omega)]; exact hpost j hj1 hj2) (by omega)
          (hB.trans hB'') (by rw [put_defers, hd]) (by rw [put_size, hsz]) (fun t ht => ?_) (fun j hj hlj => ?_) (fun h0 => ?_) (hcl.set g3)
        · have h4 := ht i him
          rw [hod] at h4
          cases hq : ops[i].dst with
          | none => exact hag t ht
          | some d => rw [put_getD_other (fun e => h4 (by rw [hq, e]))]; exact hag t ht
        · by_cases hji : i = j
          · subst hji
            cases hq : ops[i].dst with
            | none =>
              have e1 : slotOf ops i (a.put none v) = undef := by unfold slotOf; rw [hod, hq]
              rw [e1]
              exact hNone i v w' (by rw [hod, hq]) hG
            | some d =>
              have e1 : slotOf ops i (a.put (some d) v) = v := by
                unfold slotOf; rw [hod, hq]; exact put_getD_self (by rw [hsz]; exact hs.dst i him d (by rw [hod, hq]))
              rw [e1]; exact hG
          · rw [getD_set_other hji] at hlj
            have e1 : slotOf ops j (a.put ops[i].dst v) = slotOf ops j a := by
              unfold slotOf
              cases hq : ops[i].dst with
              | none => rfl
              | some d =>
                cases hj' : dstAt ops j with
                | none => rfl
                | some e => exact put_getD_other (fun h => hs.ne i j him hj hji d (by rw [hod, hq]) (by rw [hj', h]))
            rw [e1]
            have h5 := hf j hj hlj
            unfold exAt at hB'
            split at hB'
            · rename_i e; exact (hst j).1 (fun e' => hji (by rw [e, e'])) _ _ _ h5 hB'
            · exact (hst j).2 _ _ _ h5 hB'
        · by_cases e : i = st
          · subst e; rw [getD_set_self _ _ _ (by omega)] at h0; cases h0
          · rw [getD_set_other e] at h0
            unfold exAt at hB'
            rw [if_neg e] at hB'
            have := hB0 h0
            exact below_then this this.size hB'

/-- A REGION THAT DRAWS ITS ORDER. -/
theorem region_any {id : Nat} {a0 : Act} {w : World} (m n : Nat) (Gs : List Fact) (Fr : Act → Prop) (C C0 : World → Prop) (st : Nat) (al : Option Nat) (hm : P.follows .mixedOrders = true) (hs : schedOk ops m n = true) (hn : a0.tmps.size = n) (hl : Gs.length = m)
    (hst : ∀ i, (i ≠ st → (factAt Gs i).stable al) ∧ (factAt Gs i).stable none) (hNone : ∀ i v w, dstAt ops i = none → factAt Gs i v w → factAt Gs i undef w)
    (hC : ∀ w', Rl al w w' → C w') (hC0 : ∀ w', Below w.heap.size w w' → C0 w') (hFr : ∀ a, (∀ t, (∀ i, i < m → dstAt ops i ≠ some t) → a.tmps.getD t undef = a0.tmps.getD t undef) → Fr a)
    (hO : Obls (Obl P ops Q Gs Fr C C0 st al) m 0) (hfin : ∀ w', Rl al w w' → C w' → Fin (wpList P ops Q (ops.toList.drop m)) w' (ops.toList.take m) Gs a0) : (Code.region id ops true).wp P Q a0 w := by
  have hS := schedOk_spec hs
  have hR : ∀ w', Rl al { w with drawn := w.drawn + 1 } w' → Rl al w w' := fun w' h => by
    cases al with
    | none => exact ⟨h.os, h.tape, h.output, h.size, h.block⟩
    | some b => exact ⟨h.os, h.tape, h.output, h.size, h.block⟩
  refine wp_region_any hm (pre_any (w0 := { w with drawn := w.drawn + 1 }) (m := m) hS hn (Gs := Gs) (Fr := Fr) (C := C) hst hNone (fun w' h => hC w' (hR w' h)) (fun w' h => hC0 w' ⟨h.os, h.tape, h.output, h.size, h.block⟩) hFr (fun i hi => hO.get i (by omega) (by omega)) (fun a w' hB hd hsz hag hf => ?_)
    (cntOff (Array.replicate ops.size false) m) _ _ _ _ rfl (by simp) (fun i h1 h2 => by simp [Array.getD_eq_getD_getElem?, h2]) (by have := cntOff_le (l := Array.replicate ops.size false) m; have := hS.le; omega)
    (Rl.of_below (Below.refl _ _) al) rfl hn (fun t _ => rfl) (fun i h1 h2 => ?_) (fun _ => Below.refl _ _) (Closed.none _))
  · have hlen : (ops.toList.take m).length = m := by have := hS.le; simp; omega
    refine fin_get hS hsz hf (ops.toList.take m) Gs 0 a0 (fun j hj => ?_) (fun j hj => by rw [Nat.zero_add]) (by rw [hlen, hl]) (by rw [hlen, Nat.zero_add]) hd.symm (by rw [hsz, hn]) (fun t ht => (hag t fun i h => ht i (Nat.zero_le _) h).symm) (hfin w' (hR w' hB) (hC w' (hR w' hB)))
    rw [hlen] at hj
    rw [Nat.zero_add, List.getElem?_take_of_lt hj, Array.getElem?_toList]
  · have := hS.le
    rw [Array.getD_eq_getD_getElem?] at h2
    simp [show i < ops.size by omega] at h2

def fixedAt (ops : Array Oper) (m : Nat) (t : Tmp) : Bool := (List.range m).all fun i => decide (dstAt ops i ≠ some t)
theorem fixedAt_spec {ops : Array Oper} {m : Nat} {t : Tmp} (h : fixedAt ops m t = true) : ∀ i, i < m → dstAt ops i ≠ some t := fun i hi =>
  of_decide_eq_true ((List.all_eq_true.1 h) i (List.mem_range.2 hi))
/-- slots that the region reads and does not write. -/
def FrL : List (Tmp × Value) → Act → Prop
  | [], _ => True
  | (t, v) :: r, a => a.tmps.getD t undef = v ∧ FrL r a
theorem FrL.of {m : Nat} {a0 : Act} : ∀ {l : List (Tmp × Value)}, (l.map (·.1)).all (fixedAt ops m) = true → FrL l a0 → ∀ a, (∀ t, (∀ i, i < m → dstAt ops i ≠ some t) → a.tmps.getD t undef = a0.tmps.getD t undef) → FrL l a
  | [], _, _, _, _ => trivial
  | (t, v) :: r, h1, h2, a, h => by
    simp only [List.map_cons, List.all_cons, Bool.and_eq_true] at h1
    exact ⟨(h t (fixedAt_spec h1.1)).trans h2.1, FrL.of h1.2 h2.2 a h⟩

theorem Fact.eq {al : Option Nat} (X : Value) : Fact.stable al (fun v _ => v = X) := fun _ _ _ h _ => h
/-- all facts but that of operation st are kept by what may be done; each is kept by new blocks; a fact of an operation without a slot speaks of the world alone. -/
inductive Stables (ops : Array Oper) (st : Nat) (al : Option Nat) : Nat → List Fact → Prop
  | nil (k : Nat) : Stables ops st al k []
  | cons {k : Nat} {G : Fact} {r : List Fact} (h : G.stable al) (hd : (dstAt ops k).isSome = true) (hr : Stables ops st al (k + 1) r) : Stables ops st al k (G :: r)
  | store {k : Nat} {G : World → Prop} {r : List Fact} (h : ∀ w w', G w → Below w.heap.size w w' → G w') (hk : k = st) (hr : Stables ops st al (k + 1) r) : Stables ops st al k ((fun _ w => G w) :: r)
theorem Stables.get {ops : Array Oper} {st : Nat} {al : Option Nat} {k : Nat} {Gs : List Fact} (h : Stables ops st al k Gs) : ∀ i, ((k + i ≠ st → (factAt Gs i).stable al) ∧ (factAt Gs i).stable none) ∧ (∀ v w, dstAt ops (k + i) = none → factAt Gs i v w → factAt Gs i undef w) := by
  induction h with
  | nil k => exact fun i => ⟨⟨fun _ _ _ _ _ _ => trivial, fun _ _ _ _ _ => trivial⟩, fun _ _ _ _ => trivial⟩
  | @cons k G r h hd hr ih =>
    intro i
    cases i with
    | zero => exact ⟨⟨fun _ => h, h.weak⟩, fun v w e _ => by rw [Nat.add_zero] at e; rw [e] at hd; cases hd⟩
    | succ i => have := ih i; rw [show k + (i + 1) = k + 1 + i by omega]; exact this
  | @store k G r h hk hr ih =>
    intro i
    cases i with
    | zero => exact ⟨⟨fun e => absurd hk e, fun v w w' hG hb => h w w' hG hb⟩, fun v w _ hG => hG⟩
    | succ i => have := ih i; rw [show k + (i + 1) = k + 1 + i by omega]; exact this

theorem region_do {id : Nat} {a0 : Act} {w : World} (m n : Nat) (Gs : List Fact) (frs : List (Tmp × Value)) (C C0 : World → Prop) (st : Nat) (al : Option Nat) (hm : P.follows .mixedOrders = true) (hs : schedOk ops m n = true) (hn : a0.tmps.size = n) (hl : Gs.length = m)
    (hst : Stables ops st al 0 Gs) (hC : ∀ w', Rl al w w' → C w') (hC0 : ∀ w', Below w.heap.size w w' → C0 w') (hf1 : (frs.map (·.1)).all (fixedAt ops m) = true) (hf2 : FrL frs a0)
    (hO : Obls (Obl P ops Q Gs (FrL frs) C C0 st al) m 0) (hfin : ∀ w', Rl al w w' → C w' → Fin (wpList P ops Q (ops.toList.drop m)) w' (ops.toList.take m) Gs a0) : (Code.region id ops true).wp P Q a0 w :=
  region_any m n Gs (FrL frs) C C0 st al hm hs hn hl (fun i => by have := (hst.get i).1; rwa [Nat.zero_add] at this) (fun i v w e => by have := (hst.get i).2 v w; rw [Nat.zero_add] at this; exact this e) hC hC0 (FrL.of hf1 hf2) hO hfin

theorem Obl.plain {Gs : List Fact} {Fr : Act → Prop} {C C0 : World → Prop} {st : Nat} {al : Option Nat} {i : Nat} (hx : exAt st al i = none) (o : Oper) (ho : ops[i]? = some o) (hg : o.guard = none) (ds : List Nat) (hds : waits ops i = ds)
    (h : ∀ a w, Fr a → C w → Known ops Gs a w ds → ∀ K : Act → World → Prop, (∀ v w', factAt Gs i v w' → Below w.heap.size w w' → K (a.put o.dst v) w') → o.wp P a w K Q) : Obl P ops Q Gs Fr C C0 st al i := by
  intro o' ho' a w hF hC hC0 hD K hK
  obtain rfl : o = o' := by rw [ho] at ho'; injection ho'
  have hw : Region.wanted o (yielded ops a.tmps) = true := by simp [Region.wanted, hg]
  rw [if_pos hw]
  rw [hx] at hK
  exact h a w hF hC (by rw [← hds]; exact hD) K hK
theorem getD_some {t : Array Value} {d : Tmp} {b : Bool} (h : t.getD d undef = .bool b) : t[d]? = some (.bool b) := by
  rw [Array.getD_eq_getD_getElem?] at h
  cases hq : t[d]? with
  | none => rw [hq] at h; cases h
  | some v => rw [hq] at h; exact congrArg some h
/-- an operation behind a guard that holds. -/
theorem Obl.guarded {Gs : List Fact} {Fr : Act → Prop} {C C0 : World → Prop} {st : Nat} {al : Option Nat} {i : Nat} (hx : exAt st al i = none) (o : Oper) (ho : ops[i]? = some o) (g : Nat) (b : Bool) (d : Tmp) (hg : o.guard = some (g, b)) (hgd : (ops[g]?).bind (·.dst) = some d)
    (ds : List Nat) (hds : waits ops i = ds) (hv : ∀ a w, Fr a → C w → Known ops Gs a w ds → a.tmps.getD d undef = .bool b)
    (h : ∀ a w, Fr a → C w → Known ops Gs a w ds → ∀ K : Act → World → Prop, (∀ v w', factAt Gs i v w' → Below w.heap.size w w' → K (a.put o.dst v) w') → o.wp P a w K Q) : Obl P ops Q Gs Fr C C0 st al i := by
  intro o' ho' a w hF hC hC0 hD K hK
  obtain rfl : o = o' := by rw [ho] at ho'; injection ho'
  have h1 := getD_some (hv a w hF hC (by rw [← hds]; exact hD))
  have hw : Region.wanted o (yielded ops a.tmps) = true := by simp [Region.wanted, hg, yielded, hgd, h1]
  rw [if_pos hw]
  rw [hx] at hK
  exact h a w hF hC (by rw [← hds]; exact hD) K hK
/-- an operation behind a guard that does not hold. -/
theorem Obl.skipped {Gs : List Fact} {Fr : Act → Prop} {C C0 : World → Prop} {st : Nat} {al : Option Nat} {i : Nat} (hx : exAt st al i = none) (o : Oper) (ho : ops[i]? = some o) (g : Nat) (b : Bool) (d : Tmp) (hg : o.guard = some (g, b)) (hgd : (ops[g]?).bind (·.dst) = some d)
    (ds : List Nat) (hds : waits ops i = ds) (hv : ∀ a w, Fr a → C w → Known ops Gs a w ds → a.tmps.getD d undef = .bool (!b))
    (h : ∀ w, factAt Gs i undef w) : Obl P ops Q Gs Fr C C0 st al i := by
  intro o' ho' a w hF hC hC0 hD K hK
  obtain rfl : o = o' := by rw [ho] at ho'; injection ho'
  have h1 := getD_some (hv a w hF hC (by rw [← hds]; exact hD))
  have hw : Region.wanted o (yielded ops a.tmps) = false := by simp [Region.wanted, hg, yielded, hgd, h1]
  rw [hw, if_neg (by simp)]
  rw [hx] at hK
  exact hK undef w (h w) (Below.refl _ _)
/-- the operation that writes. -/
theorem Obl.write {Gs : List Fact} {Fr : Act → Prop} {C C0 : World → Prop} {st b : Nat} {i : Nat} (hi : i = st) (hx : exAt st (some b) i = some b) (o : Oper) (ho : ops[i]? = some o) (hg : o.guard = none) (ds : List Nat) (hds : waits ops i = ds)
    (h : ∀ a w, Fr a → C w → C0 w → Known ops Gs a w ds → ∀ K : Act → World → Prop, (∀ v w', factAt Gs i v w' → Only w w' b → K (a.put o.dst v) w') → o.wp P a w K Q) : Obl P ops Q Gs Fr C C0 st (some b) i := by
  intro o' ho' a w hF hC hC0 hD K hK
  obtain rfl : o = o' := by rw [ho] at ho'; injection ho'
  have hw : Region.wanted o (yielded ops a.tmps) = true := by simp [Region.wanted, hg]
  rw [if_pos hw]
  rw [hx] at hK
  exact h a w hF hC (hC0 hi) (by rw [← hds]; exact hD) K hK

/-- what a pure operation does. -/
theorem wp_move {o : Oper} {a : Act} {w : World} {K : Act → World → Prop} (x : Operand) (ho : o.op = .move x) {v : Value} (hx : a.eval x = v) (h : K (a.put o.dst v) w) : o.wp P a w K Q := by
  subst hx; unfold Oper.wp execOp; simp only [ho, Sem.run_pure]; exact h
theorem wp_assign {o : Oper} {a : Act} {w : World} {K : Act → World → Prop} (x : Operand) (ho : o.op = .assign x) {v : Value} (hx : a.eval x = v) (h : K (a.put o.dst v) w) : o.wp P a w K Q := by
  subst hx; unfold Oper.wp execOp; simp only [ho, Sem.run_pure]; exact h
end
end Go.Proofs.Ytincemkjdgbnnaa
