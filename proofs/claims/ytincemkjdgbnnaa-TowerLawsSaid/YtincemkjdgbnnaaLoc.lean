/- Regions that draw their order and make variables of their own: each such variable is a block of cells; a store into it may come ahead of other operations. -/
import Derived.Test.YtincemkjdgbnnaaSched
set_option linter.unusedVariables false
set_option linter.unusedSimpArgs false
namespace Go.Proofs.Ytincemkjdgbnnaa
open Go.RowKit

section
variable (P : Program) (ops : Array Oper) (Q : Exit → Act → World → Prop)

/-- an operation that makes a variable. -/
structure LocA (t : TypeId) (i : Nat) : Prop where
  ex : ∃ o d, ops[i]? = some o ∧ o.guard = none ∧ o.op = .alloc t ∧ o.dst = some d
/-- an operation that stores the value of operation j into the variable of operation k. -/
structure LocS (Gs : List Fact) (t : TypeId) (s k : Nat) (X : List Value) : Prop where
  ex : ∃ o p q j, ops[s]? = some o ∧ o.guard = none ∧ o.op = .store t (.tmp p) (.tmp q) ∧ o.dst = none ∧ dstAt ops k = some p ∧ dstAt ops j = some q ∧ (waits ops s).contains k = true ∧ (waits ops s).contains j = true ∧
    (∀ v w, factAt Gs j v w → v = .agg X.toArray)

/-- what holds while the region runs. -/
structure LocInv (Gs : List Fact) (A : List Nat) (t : TypeId) (z : List Value) (S : List (Nat × Nat × List Value)) (m n : Nat) (w0 : World) (a0 : Act) (l : Array Bool) (a : Act) (w : World) : Prop where
  hB : Below w0.heap.size w0 w
  hd : a.defers = a0.defers
  hsz : a.tmps.size = n
  hag : ∀ t, (∀ i, i < m → dstAt ops i ≠ some t) → a.tmps.getD t undef = a0.tmps.getD t undef
  hf : ∀ i, i < m → l.getD i true = true → factAt Gs i (slotOf ops i a) w
  hA : ∀ i, i ∈ A → l.getD i true = true → ∃ b L, slotOf ops i a = .pointer (some ⟨b, 0, none⟩) ∧ w0.heap.size ≤ b ∧ VB w b t L ∧ L.length = z.length
  hD : ∀ i j, i ∈ A → j ∈ A → l.getD i true = true → l.getD j true = true → i ≠ j → slotOf ops i a ≠ slotOf ops j a
  hS : ∀ e, e ∈ S → l.getD e.1 true = true → l.getD e.2.1 true = true ∧ ∃ b, slotOf ops e.2.1 a = .pointer (some ⟨b, 0, none⟩) ∧ VB w b t e.2.2
end

/-- each fact is kept by what leaves the blocks below B alone. -/
inductive StabB (B : Nat) : List Fact → Prop
  | nil : StabB B []
  | cons {G : Fact} {r : List Fact} (h : ∀ v w w', G v w → B ≤ w.heap.size → Below B w w' → G v w') (hr : StabB B r) : StabB B (G :: r)
theorem StabB.get {B : Nat} {Gs : List Fact} (h : StabB B Gs) : ∀ i v w w', factAt Gs i v w → B ≤ w.heap.size → Below B w w' → factAt Gs i v w' := by
  induction h with
  | nil => exact fun i v w w' _ _ _ => trivial
  | cons h hr ih =>
    intro i v w w' hG hle hb
    cases i with
    | zero => exact h v w w' hG hle hb
    | succ i => exact ih i v w w' hG hle hb
theorem factB_eq {B : Nat} (X : Value) : ∀ (v : Value) (w w' : World), (fun (v : Value) (_ : World) => v = X) v w → B ≤ w.heap.size → Below B w w' → (fun (v : Value) (_ : World) => v = X) v w' := fun _ _ _ h _ _ => h

theorem below_weak {B : Nat} {w w' : World} (hle : B ≤ w.heap.size) (h : Below w.heap.size w w') : Below B w w' := ⟨h.os, h.tape, h.output, h.size, fun i hi => h.block i (Nat.lt_of_lt_of_le hi hle)⟩
theorem only_weak {B b : Nat} {w w' : World} (hle : B ≤ w.heap.size) (hb : B ≤ b) (h : Only w w' b) : Below B w w' := ⟨h.os, h.tape, h.output, h.size, fun i hi => h.block i (Nat.lt_of_lt_of_le hi hle) (fun e => by injection e with e; omega)⟩

section
variable {P : Program} {ops : Array Oper} {Q : Exit → Act → World → Prop}

theorem slot_put_self {m n : Nat} (hs : SchedOk ops m n) {a : Act} (hsz : a.tmps.size = n) {i : Nat} (hi : i < m) {o : Oper} (ho : ops[i]? = some o) {d : Tmp} (hod : o.dst = some d) (v : Value) : slotOf ops i (a.put o.dst v) = v := by
  have h1 : dstAt ops i = some d := by unfold dstAt; rw [ho]; exact hod
  unfold slotOf; rw [h1, hod]; exact put_getD_self (by rw [hsz]; exact hs.dst i hi d h1)
theorem slot_put_none {a : Act} {i : Nat} {o : Oper} (ho : ops[i]? = some o) (hod : o.dst = none) (v : Value) : slotOf ops i (a.put o.dst v) = undef := by
  have h1 : dstAt ops i = none := by unfold dstAt; rw [ho]; exact hod
  unfold slotOf; rw [h1]
theorem slot_put_other {m n : Nat} (hs : SchedOk ops m n) {a : Act} {i j : Nat} (hi : i < m) (hj : j < m) (hji : i ≠ j) {o : Oper} (ho : ops[i]? = some o) (v : Value) : slotOf ops j (a.put o.dst v) = slotOf ops j a := by
  have hod : dstAt ops i = o.dst := by unfold dstAt; rw [ho]; rfl
  unfold slotOf
  cases hq : o.dst with
  | none => rfl
  | some d =>
    cases hj' : dstAt ops j with
    | none => rfl
    | some e => exact put_getD_other (fun h => hs.ne i j hi hj hji d (by rw [hod, hq]) (by rw [hj', h]))

theorem loc_pre {m n : Nat} (hs : SchedOk ops m n) {Gs : List Fact} {Fr : Act → Prop} {C : World → Prop} {a0 : Act} {w0 : World} {A : List Nat} {t : TypeId} {z : List Value} {S : List (Nat × Nat × List Value)}
    (hst : StabB w0.heap.size Gs) (hNone : ∀ i v w, i < m → dstAt ops i = none → factAt Gs i v w → factAt Gs i undef w)
    (hC : ∀ w', Below w0.heap.size w0 w' → C w') (hFr : ∀ a, (∀ t, (∀ i, i < m → dstAt ops i ≠ some t) → a.tmps.getD t undef = a0.tmps.getD t undef) → Fr a)
    (hAm : ∀ i, i ∈ A → i < m) (hAo : ∀ i, i ∈ A → LocA ops t i) (hAG : ∀ i, i ∈ A → ∀ v w, factAt Gs i v w)
    (hSm : ∀ e, e ∈ S → e.1 < m ∧ e.2.1 ∈ A ∧ e.1 ∉ A ∧ e.2.2.length = z.length ∧ e.2.2.all (·.oneCell') = true) (hSo : ∀ e, e ∈ S → LocS ops Gs t e.1 e.2.1 e.2.2) (hSG : ∀ e, e ∈ S → ∀ v w, factAt Gs e.1 v w)
    (hSd : ∀ e e', e ∈ S → e' ∈ S → e.1 ≠ e'.1 → e.2.1 ≠ e'.2.1) (hSe : ∀ e e', e ∈ S → e' ∈ S → e.1 = e'.1 → e = e')
    (hz : (P.info? t).map (·.zero) = some (some (.agg z.toArray))) (hi : (P.info? t).map (·.size) = some z.length)
    (hO : ∀ i, i < m → i ∉ A → (∀ e, e ∈ S → e.1 ≠ i) → Obl P ops Q Gs Fr C (fun _ => True) 999 none i)
    (hfin : ∀ l a w, l.size = ops.size → (∀ i, i < m → l.getD i true = true) → LocInv ops Gs A t z S m n w0 a0 l a w → wpList P ops Q (ops.toList.drop m) a w) :
    ∀ (p : Nat) (l : Array Bool) (fuel : Nat) (a : Act) (w : World), cntOff l m = p → l.size = ops.size → (∀ i, m ≤ i → i < ops.size → l.getD i true = false) → p + (ops.size - m) ≤ fuel →
      LocInv ops Gs A t z S m n w0 a0 l a w → Closed ops l → wpAny P .any ops Q fuel l a w
  | 0, l, fuel, a, w, hp, hl, hpost, hfu, hI, hcl => by
    have hall := cntOff_zero hp
    refine post_any hs (ops.toList.drop m) m l fuel a w (fun j => by rw [List.getElem?_drop, Array.getElem?_toList]) (Nat.le_refl _) hl (fun i hi => ?_) (by simp; omega)
      (hfin l a w hl hall hI)
    by_cases him : i < m
    · rw [hall i him]; simpa using him
    · rw [hpost i (by omega) hi]; simpa using him
  | p + 1, l, fuel, a, w, hp, hl, hpost, hfu, hI, hcl => by
    obtain ⟨i0, h1, h2, h3⟩ := least_off (l := l) (m := m) (by omega)
    have hi0 : i0 < ops.size := Nat.lt_of_lt_of_le h1 hs.le
    have hin : i0 ∈ Region.ready .any ops l := ready_iff.2 ⟨h2, hi0, fun k hk => by
      have := hs.dag i0 hi0 k hk
      rw [getD_dflt (by omega)]; exact h3 k this⟩
    cases fuel with
    | zero => omega
    | succ f =>
      refine ⟨fun h0 => (by rw [h0] at hin; cases hin), fun i hi => ?_⟩
      obtain ⟨g1, g2, g3⟩ := ready_iff.1 hi
      have him : i < m := by
        rcases Nat.lt_or_ge i m with h | h
        · exact h
        · have := (hs.last i h g2 i0 (by omega)).done hcl g3
          rw [getD_dflt (by omega), h2] at this
          cases this
      have ho : ops[i]? = some ops[i] := Array.getElem?_eq_getElem g2
      have hod : dstAt ops i = ops[i].dst := by unfold dstAt; rw [ho]; rfl
      have hwl : ∀ k, k ∈ waits ops i → l.getD k true = true := fun k hk => by
        have hki := hs.dag i g2 k hk
        rw [← getD_dflt (by omega)]; exact g3 k hk
      have hle := hI.hB.size
      -- what goes on behind the operation
      have next : ∀ v w', LocInv ops Gs A t z S m n w0 a0 (l.setIfInBounds i true) (a.put ops[i].dst v) w' → wpAny P .any ops Q f (l.setIfInBounds i true) (a.put ops[i].dst v) w' := fun v w' hI' => by
        have hc := cntOff_lt (i := i) (by omega) g1 him
        exact loc_pre hs hst hNone hC hFr hAm hAo hAG hSm hSo hSG hSd hSe hz ‹_› hO hfin p _ f _ w' (by omega) (by simpa using hl) (fun j hj1 hj2 => by rw [getD_set_other (by omega)]; exact hpost j hj1 hj2) (by omega) hI' (hcl.set g3)
      -- the parts that are alike for each operation
      have hag' : ∀ v, ∀ t, (∀ i, i < m → dstAt ops i ≠ some t) → (a.put ops[i].dst v).tmps.getD t undef = a0.tmps.getD t undef := fun v t ht => by
        have h4 := ht i him
        rw [hod] at h4
        cases hq : ops[i].dst with
        | none => exact hI.hag t ht
        | some d => rw [put_getD_other (fun e => h4 (by rw [hq, e]))]; exact hI.hag t ht
      have hf' : ∀ v w', factAt Gs i v w' → Below w0.heap.size w w' → ∀ j, j < m → (l.setIfInBounds i true).getD j true = true → factAt Gs j (slotOf ops j (a.put ops[i].dst v)) w' := fun v w' hG hb j hj hlj => by
        by_cases hji : i = j
        · subst hji
          cases hq : ops[i].dst with
          | none => rw [← hq, slot_put_none ho hq]; exact hNone i v w' him (by rw [hod, hq]) hG
          | some d => rw [← hq, slot_put_self hs hI.hsz him ho hq]; exact hG
        · rw [getD_set_other hji] at hlj
          rw [slot_put_other hs him hj hji ho]
          exact hst.get j _ _ _ (hI.hf j hj hlj) hle hb
      have hold : ∀ j, i ≠ j → (l.setIfInBounds i true).getD j true = true → l.getD j true = true := fun j hji h => by rwa [getD_set_other hji] at h
      by_cases hiA : i ∈ A
      · -- a new variable
        obtain ⟨⟨o, d, ho', hg, hop, hdst⟩⟩ := hAo i hiA
        obtain rfl : ops[i] = o := by rw [ho] at ho'; injection ho'
        unfold wpOp
        rw [ho]
        have hw : Region.wanted ops[i] (yielded ops a.tmps) = true := by simp [Region.wanted, hg]
        simp only [hw, if_true]
        have hz' : ∃ i, P.info? t = some i ∧ i.zero = some (.agg z.toArray) := by
          cases hq : P.info? t with
          | none => rw [hq] at hz; cases hz
          | some i => rw [hq] at hz; exact ⟨i, rfl, by simpa using hz⟩
        obtain ⟨inf, hinf, hz2⟩ := hz'
        have hrun : ∀ old, (Instr.alloc t true old).run P w = .ok (.pointer (some ⟨w.heap.size, 0, none⟩)) (w.alloc (.cells z.toArray t)) := fun old => by
          simp [Instr.alloc, zeroValue, typeInfo, hinf, hz2, newVar, newRow, Value.cells]
        have hnb : Below w.heap.size w (w.alloc (.cells z.toArray t)) := below_alloc (Below.refl _ _) _
        have hnew : VB (w.alloc (.cells z.toArray t)) w.heap.size t z := VB.new w t z
        refine .inl ?_
        unfold Oper.wp execOp
        simp only [hop, Sem.run_bind, hrun, Result.andThen_ok, Sem.run_pure]
        refine next _ _ ⟨below_then hI.hB hle hnb, by rw [put_defers]; exact hI.hd, by rw [put_size]; exact hI.hsz, hag' _, hf' _ _ (hAG i hiA _ _) (below_weak hle hnb), fun j hj hlj => ?_, fun j k hj hk hlj hlk hne => ?_, fun e he hle' => ?_⟩
        · by_cases hji : i = j
          · subst hji
            rw [slot_put_self hs hI.hsz him ho hdst]
            exact ⟨_, _, rfl, hle, hnew, rfl⟩
          · rw [slot_put_other hs him (hAm j hj) hji ho]
            obtain ⟨b, L, e1, e2, e3, e4⟩ := hI.hA j hj (hold j hji hlj)
            exact ⟨b, L, e1, e2, e3.next hnb, e4⟩
        · by_cases hji : i = j
          · subst hji
            rw [slot_put_self hs hI.hsz him ho hdst, slot_put_other hs him (hAm k hk) hne ho]
            obtain ⟨b, L, e1, e2, e3, e4⟩ := hI.hA k hk (hold k hne hlk)
            rw [e1]
            intro e
            injection e with e; injection e with e; injection e with e
            have := e3.lt
            omega
          · by_cases hki : i = k
            · subst hki
              rw [slot_put_self hs hI.hsz him ho hdst, slot_put_other hs him (hAm j hj) hji ho]
              obtain ⟨b, L, e1, e2, e3, e4⟩ := hI.hA j hj (hold j hji hlj)
              rw [e1]
              intro e
              injection e with e; injection e with e; injection e with e
              have := e3.lt
              omega
            · rw [slot_put_other hs him (hAm j hj) hji ho, slot_put_other hs him (hAm k hk) hki ho]
              exact hI.hD j k hj hk (hold j hji hlj) (hold k hki hlk) hne
        · have hSm' := hSm e he
          have hei : i ≠ e.1 := fun h => hSm'.2.2.1 (h ▸ hiA)
          obtain ⟨f1, b, f2, f3⟩ := hI.hS e he (hold e.1 hei hle')
          have hki : i ≠ e.2.1 := fun h => by rw [← h, g1] at f1; cases f1
          rw [getD_set_other hki, slot_put_other hs him (hAm _ hSm'.2.1) hki ho]
          exact ⟨f1, b, f2, f3.next hnb⟩
      · by_cases hiS : ∃ e, e ∈ S ∧ e.1 = i
        · -- a store into one of them
          obtain ⟨e, he, rfl⟩ := hiS
          obtain ⟨⟨o, pp, q, j, ho', hg, hop, hdst, hdk, hdj, hwk, hwj, hval⟩⟩ := hSo e he
          obtain rfl : ops[e.1] = o := by rw [ho] at ho'; injection ho'
          obtain ⟨_, hkA, _, hlen, hone⟩ := hSm e he
          have hkd := hwl _ (by simpa using hwk)
          have hjd := hwl _ (by simpa using hwj)
          have hki : e.1 ≠ e.2.1 := fun h => by rw [h, hkd] at g1; cases g1
          have hjm : j < m := by have := hs.dag e.1 g2 j (by simpa using hwj); omega
          obtain ⟨b, L, e1, e2, e3, e4⟩ := hI.hA _ hkA hkd
          have hx : a.eval (.tmp pp) = .pointer (some ⟨b, 0, none⟩) := by
            have : slotOf ops e.2.1 a = a.tmps.getD pp undef := by unfold slotOf; rw [hdk]
            rw [this] at e1
            simpa [Act.eval] using e1
          have hy : a.eval (.tmp q) = .agg e.2.2.toArray := by
            have h5 := hval _ _ (hI.hf j hjm hjd)
            have : slotOf ops j a = a.tmps.getD q undef := by unfold slotOf; rw [hdj]
            rw [this] at h5
            simpa [Act.eval] using h5
          obtain ⟨w', hrun, hv', ho2⟩ := storeA_run (P := P) (off := 0) e3 (ty := t) e.2.2 (by rw [‹(P.info? t).map (·.size) = some z.length›, hlen]) hone (by omega)
          rw [List.take_zero, List.nil_append, Nat.zero_add, hlen, ← e4, List.drop_length, List.append_nil] at hv'
          have hbw := only_weak hle e2 ho2
          unfold wpOp
          rw [ho]
          have hw : Region.wanted ops[e.1] (yielded ops a.tmps) = true := by simp [Region.wanted, hg]
          simp only [hw, if_true]
          refine .inl ?_
          unfold Oper.wp execOp
          simp only [hop, hx, hy, Sem.run_bind, hrun, Result.andThen_ok, Sem.run_pure]
          have hslot : ∀ k, slotOf ops k (a.put ops[e.1].dst undef) = slotOf ops k a := fun k => by rw [hdst]; rfl
          refine next _ _ ⟨Only.below hI.hB ho2 e2, by rw [put_defers]; exact hI.hd, by rw [put_size]; exact hI.hsz, hag' _, hf' _ _ (hSG e he _ _) hbw, fun k hk hlk => ?_, fun k k' hk hk' hlk hlk' hne => ?_, fun e' he' hle' => ?_⟩
          · rw [hslot]
            have hke : e.1 ≠ k := fun h => hiA (h ▸ hk)
            by_cases hkk : k = e.2.1
            · subst hkk
              exact ⟨b, _, e1, e2, hv', by rw [hlen]⟩
            · obtain ⟨b', L', f1, f2, f3, f4⟩ := hI.hA k hk (hold k hke hlk)
              have hnb : b' ≠ b := fun h => hI.hD k e.2.1 hk hkA (hold k hke hlk) hkd hkk (by rw [f1, e1, h])
              exact ⟨b', L', f1, f2, ho2.vb f3 hnb, f4⟩
          · rw [hslot, hslot]
            exact hI.hD k k' hk hk' (hold k (fun h => hiA (h ▸ hk)) hlk) (hold k' (fun h => hiA (h ▸ hk')) hlk') hne
          · rw [hslot]
            have hke : e.1 ≠ e'.2.1 := fun h => hiA (h ▸ (hSm e' he').2.1)
            rw [getD_set_other hke]
            by_cases hee : e.1 = e'.1
            · obtain rfl := hSe e e' he he' hee
              exact ⟨hkd, b, e1, hv'⟩
            · obtain ⟨f1, b', f2, f3⟩ := hI.hS e' he' (hold _ hee hle')
              refine ⟨f1, b', f2, ho2.vb f3 fun h => ?_⟩
              exact hI.hD _ _ (hSm e' he').2.1 hkA f1 hkd (fun h' => hSd e e' he he' hee h'.symm) (by rw [f2, e1, h])
        · -- any other
          refine wpOp_step ho fun K' hK => ?_
          refine hO i him hiA (fun e he h => hiS ⟨e, he, h⟩) _ ho a w (hFr a hI.hag) (hC w hI.hB) (fun _ => trivial) (known_of _ fun k hk => ?_) K' fun v w' hG hB' => hK _ _ (next v w' ?_)
          · have hki := hs.dag i g2 k hk
            exact hI.hf k (by omega) (hwl k hk)
          · have hex : exAt 999 (none : Option Nat) i = none := by unfold exAt; split <;> rfl
            rw [hex] at hB'
            change Below w.heap.size w w' at hB'
            refine ⟨below_then hI.hB hle hB', by rw [put_defers]; exact hI.hd, by rw [put_size]; exact hI.hsz, hag' _, hf' _ _ hG (below_weak hle hB'), fun j hj hlj => ?_, fun j k hj hk hlj hlk hne => ?_, fun e he hle' => ?_⟩
            · have hji : i ≠ j := fun h => hiA (h ▸ hj)
              rw [slot_put_other hs him (hAm j hj) hji ho]
              obtain ⟨b, L, e1, e2, e3, e4⟩ := hI.hA j hj (hold j hji hlj)
              exact ⟨b, L, e1, e2, e3.next hB', e4⟩
            · have hji : i ≠ j := fun h => hiA (h ▸ hj)
              have hki : i ≠ k := fun h => hiA (h ▸ hk)
              rw [slot_put_other hs him (hAm j hj) hji ho, slot_put_other hs him (hAm k hk) hki ho]
              exact hI.hD j k hj hk (hold j hji hlj) (hold k hki hlk) hne
            · have hei : i ≠ e.1 := fun h => hiS ⟨e, he, h.symm⟩
              obtain ⟨f1, b, f2, f3⟩ := hI.hS e he (hold e.1 hei hle')
              have hki : i ≠ e.2.1 := fun h => hiA (h ▸ (hSm e he).2.1)
              rw [getD_set_other hki, slot_put_other hs him (hAm _ (hSm e he).2.1) hki ho]
              exact ⟨f1, b, f2, f3.next hB'⟩

/-- the facts, the variables' pointers being known. -/
def withPtrs (A : List Nat) (bs : Nat → Nat) : Nat → List Fact → List Fact
  | _, [] => []
  | k, G :: r => (if A.contains k then fun v _ => v = .pointer (some ⟨bs k, 0, none⟩) else G) :: withPtrs A bs (k + 1) r
theorem withPtrs_length (A : List Nat) (bs : Nat → Nat) : ∀ (k : Nat) (Gs : List Fact), (withPtrs A bs k Gs).length = Gs.length
  | _, [] => rfl
  | k, _ :: r => by simp [withPtrs, withPtrs_length A bs (k + 1) r]
theorem withPtrs_at (A : List Nat) (bs : Nat → Nat) : ∀ (k : Nat) (Gs : List Fact) (i : Nat), i < Gs.length → factAt (withPtrs A bs k Gs) i = if A.contains (k + i) then fun v _ => v = .pointer (some ⟨bs (k + i), 0, none⟩) else factAt Gs i
  | _, [], i, h => by simp at h
  | k, G :: r, 0, _ => by unfold withPtrs; simp [factAt]
  | k, G :: r, i + 1, h => by
    have := withPtrs_at A bs (k + 1) r i (by simpa using h)
    unfold factAt at this ⊢
    unfold withPtrs
    rw [List.getElem?_cons_succ, List.getElem?_cons_succ, this, show k + 1 + i = k + (i + 1) by omega]

theorem inj_of_nodup : ∀ {S : List (Nat × Nat × List Value)}, (S.map (·.1)).Nodup → ∀ e e', e ∈ S → e' ∈ S → e.1 = e'.1 → e = e'
  | [], _, e, _, h, _, _ => by cases h
  | x :: r, hn, e, e', h, h', he => by
    rw [List.map_cons, List.nodup_cons] at hn
    rcases List.mem_cons.1 h with k | k
    · rcases List.mem_cons.1 h' with k' | k'
      · rw [k, k']
      · exact absurd (by rw [← k, he]; exact List.mem_map_of_mem (f := (·.1)) k') hn.1
    · rcases List.mem_cons.1 h' with k' | k'
      · exact absurd (by rw [← k', ← he]; exact List.mem_map_of_mem (f := (·.1)) k) hn.1
      · exact inj_of_nodup hn.2 e e' k k' he
theorem allC {α : Type} {p : α → Prop} {a : α} {l : List α} (h : p a) (hr : ∀ i, i ∈ l → p i) : ∀ i, i ∈ a :: l → p i := fun i hi => by
  rcases List.mem_cons.1 hi with rfl | hi
  · exact h
  · exact hr i hi
theorem allN {α : Type} {p : α → Prop} : ∀ i, i ∈ ([] : List α) → p i := fun i h => by cases h
/-- A REGION THAT DRAWS ITS ORDER AND MAKES VARIABLES. -/
theorem region_loc {id : Nat} {a0 : Act} {w : World} (m n : Nat) (Gs : List Fact) (frs : List (Tmp × Value)) (C : World → Prop) (A : List Nat) (t : TypeId) (z : List Value) (S : List (Nat × Nat × List Value))
    (hm : P.follows .mixedOrders = true) (hs : schedOk ops m n = true) (hn : a0.tmps.size = n) (hl : Gs.length = m)
    (hst : StabB w.heap.size Gs) (hNone : (List.range m).all (fun i => (dstAt ops i).isSome || (S.map (·.1)).contains i) = true) (hC : ∀ w', Below w.heap.size w w' → C w')
    (hf1 : (frs.map (·.1)).all (fixedAt ops m) = true) (hf2 : FrL frs a0)
    (hAm : (A.all fun i => decide (i < m)) = true) (hAo : ∀ i, i ∈ A → LocA ops t i) (hAG : ∀ i, i ∈ A → ∀ v w, factAt Gs i v w)
    (hSm : (S.all fun e => decide (e.1 < m) && A.contains e.2.1 && !A.contains e.1 && decide (e.2.2.length = z.length) && e.2.2.all (·.oneCell') && (S.all fun e' => (decide (e.1 = e'.1) == decide (e.2.1 = e'.2.1)))) = true)
    (hSo : ∀ e, e ∈ S → LocS ops Gs t e.1 e.2.1 e.2.2) (hSG : ∀ e, e ∈ S → ∀ v w, factAt Gs e.1 v w) (hSn : (S.map (·.1)).Nodup)
    (hz : (P.info? t).map (·.zero) = some (some (.agg z.toArray))) (hi : (P.info? t).map (·.size) = some z.length)
    (hO : Obls (fun i => A.contains i = false → (S.map (·.1)).contains i = false → Obl P ops Q Gs (FrL frs) C (fun _ => True) 999 none i) m 0)
    (hfin : ∀ w' (bs : Nat → Nat), Below w.heap.size w w' → C w' → (∀ i, i ∈ A → w.heap.size ≤ bs i ∧ ∃ L, VB w' (bs i) t L ∧ L.length = z.length) → (∀ i j, i ∈ A → j ∈ A → i ≠ j → bs i ≠ bs j) → (∀ e, e ∈ S → VB w' (bs e.2.1) t e.2.2) →
      Fin (wpList P ops Q (ops.toList.drop m)) w' (ops.toList.take m) (withPtrs A bs 0 Gs) a0) : (Code.region id ops true).wp P Q a0 w := by
  have hSe := inj_of_nodup hSn
  have hS := schedOk_spec hs
  have hR : ∀ w', Below w.heap.size { w with drawn := w.drawn + 1 } w' → Below w.heap.size w w' := fun w' h => ⟨h.os, h.tape, h.output, h.size, h.block⟩
  have hAm' : ∀ i, i ∈ A → i < m := fun i h => of_decide_eq_true ((List.all_eq_true.1 hAm) i h)
  have hSm' : ∀ e, e ∈ S → (e.1 < m ∧ e.2.1 ∈ A ∧ e.1 ∉ A ∧ e.2.2.length = z.length ∧ e.2.2.all (·.oneCell') = true) ∧ ∀ e', e' ∈ S → (e.1 = e'.1 ↔ e.2.1 = e'.2.1) := fun e he => by
    have h := (List.all_eq_true.1 hSm) e he
    simp only [Bool.and_eq_true, List.contains_iff_mem, Bool.not_eq_true', decide_eq_true_eq] at h
    obtain ⟨⟨⟨⟨⟨h1, h2⟩, h3⟩, h4⟩, h5⟩, h6⟩ := h
    refine ⟨⟨h1, h2, by simpa using h3, h4, h5⟩, fun e' he' => ?_⟩
    have := (List.all_eq_true.1 h6) e' he'
    rw [beq_iff_eq] at this
    exact ⟨fun h => by have h' := decide_eq_true h; rw [this] at h'; exact of_decide_eq_true h', fun h => by have h' := decide_eq_true h; rw [← this] at h'; exact of_decide_eq_true h'⟩
  refine wp_region_any hm (loc_pre (P := P) (w0 := { w with drawn := w.drawn + 1 }) (a0 := a0) (m := m) hS (Gs := Gs) (Fr := FrL frs) (C := C) (A := A) (t := t) (z := z) (S := S) hst (fun i v w' hi hd hG => ?_) (fun w' h => hC w' (hR w' h)) (FrL.of hf1 hf2) hAm' hAo hAG (fun e he => (hSm' e he).1) hSo hSG
    (fun e e' he he' hne h => hne (((hSm' e he).2 e' he').2 h)) hSe hz hi (fun i hi hiA hiS => hO.get i (by omega) (by omega) (by simpa using hiA) (by simp only [List.contains_eq_any_beq, List.any_map, List.any_eq_false]; intro e he h; exact hiS e he (by simpa using (beq_iff_eq.1 h).symm))) (fun l a w' hls hall hI => ?_)
    (cntOff (Array.replicate ops.size false) m) _ _ _ _ rfl (by simp) (fun i h1 h2 => by simp [Array.getD_eq_getD_getElem?, h2]) (by have := cntOff_le (l := Array.replicate ops.size false) m; have := hS.le; omega) ?_ (Closed.none _))
  · have h := (List.all_eq_true.1 hNone) i (List.mem_range.2 hi)
    rw [hd] at h
    simp only [Option.isSome_none, Bool.false_or] at h
    obtain ⟨e, he, rfl⟩ := List.mem_map.1 (by simpa using h : i ∈ S.map (·.1))
    exact hSG e he _ _
  · have hbs : ∃ bs : Nat → Nat, ∀ i, i ∈ A → slotOf ops i a = .pointer (some ⟨bs i, 0, none⟩) ∧ w.heap.size ≤ bs i ∧ ∃ L, VB w' (bs i) t L ∧ L.length = z.length := by
      refine Classical.axiomOfChoice (r := fun i b => i ∈ A → slotOf ops i a = .pointer (some ⟨b, 0, none⟩) ∧ w.heap.size ≤ b ∧ ∃ L, VB w' b t L ∧ L.length = z.length) fun i => ?_
      by_cases h : i ∈ A
      · obtain ⟨b, L, e1, e2, e3, e4⟩ := hI.hA i h (hall i (hAm' i h))
        exact ⟨b, fun _ => ⟨e1, e2, L, e3, e4⟩⟩
      · exact ⟨0, fun h' => absurd h' h⟩
    obtain ⟨bs, hbs⟩ := hbs
    have hlen : (ops.toList.take m).length = m := by have := hS.le; simp; omega
    refine fin_get hS hI.hsz (Gs := withPtrs A bs 0 Gs) (fun i hi => ?_) (ops.toList.take m) (withPtrs A bs 0 Gs) 0 a0 (fun j hj => ?_) (fun j hj => by rw [Nat.zero_add]) (by rw [hlen, withPtrs_length, hl]) (by rw [hlen, Nat.zero_add]) hI.hd.symm (by rw [hI.hsz, hn]) (fun t ht => (hI.hag t fun i h => ht i (Nat.zero_le _) h).symm)
      (hfin w' bs (hR w' hI.hB) (hC w' (hR w' hI.hB)) (fun i h => (hbs i h).2) (fun i j h h' hne e => hI.hD i j h h' (hall i (hAm' i h)) (hall j (hAm' j h')) hne (by rw [(hbs i h).1, (hbs j h').1, e])) (fun e he => ?_))
    · rw [withPtrs_at A bs 0 Gs i (by omega), Nat.zero_add]
      split
      · rename_i h; exact (hbs i (by simpa using h)).1
      · exact hI.hf i hi (hall i hi)
    · rw [hlen] at hj
      rw [Nat.zero_add, List.getElem?_take_of_lt hj, Array.getElem?_toList]
    · obtain ⟨_, b, e1, e2⟩ := hI.hS e he (hall _ (hSm' e he).1.1)
      have h2 := (hbs _ (hSm' e he).1.2.1).1
      rw [e1] at h2
      injection h2 with h2; injection h2 with h2; injection h2 with h2
      rw [← h2]; exact e2
  · have hno : ∀ i, i < m → (Array.replicate ops.size false).getD i true = true → False := fun i h1 h2 => by
      have := hS.le
      rw [Array.getD_eq_getD_getElem?] at h2
      simp [show i < ops.size by omega] at h2
    exact ⟨Below.refl _ _, rfl, hn, fun _ _ => rfl, fun i h1 h2 => (hno i h1 h2).elim, fun i h1 h2 => (hno i (hAm' i h1) h2).elim, fun i j h1 _ h2 _ _ => (hno i (hAm' i h1) h2).elim, fun e he h2 => (hno _ (hSm' e he).1.1 h2).elim⟩
end
end Go.Proofs.Ytincemkjdgbnnaa
