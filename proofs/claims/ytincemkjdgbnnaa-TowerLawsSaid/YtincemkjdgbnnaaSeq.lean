/- Regions without a draw once more: the first operations by what each yields, whatever stands behind them. -/
import Derived.Test.YtincemkjdgbnnaaTwH
set_option linter.unusedVariables false
set_option linter.unusedSimpArgs false
namespace Go.Proofs.Ytincemkjdgbnnaa
open Go.RowKit Lm

section
variable (ops : Array Oper)
def seqOk (m n : Nat) : Bool :=
  decide (m ≤ ops.size) &&
  ((List.range m).all (fun i => (match dstAt ops i with | some d => decide (d < n) && (List.range i).all fun j => decide (dstAt ops i ≠ dstAt ops j) | none => true)) &&
  (List.range ops.size).all fun j => (waits ops j).all (fun k => decide (k < j)))
end
section
variable {P : Program} {ops : Array Oper} {Q : Exit → Act → World → Prop}
structure SeqOk (ops : Array Oper) (m n : Nat) : Prop where
  le : m ≤ ops.size
  dst : ∀ i, i < m → ∀ d, dstAt ops i = some d → d < n
  ne : ∀ i j, i < m → j < m → i ≠ j → ∀ d, dstAt ops i = some d → dstAt ops j ≠ some d
  dag : ∀ i, i < ops.size → ∀ k ∈ waits ops i, k < i
theorem seqOk_spec {m n : Nat} (h : seqOk ops m n = true) : SeqOk ops m n := by
  unfold seqOk at h
  rw [Bool.and_eq_true, Bool.and_eq_true] at h
  obtain ⟨h0, h1, h2⟩ := h
  have hlt : ∀ i j, i < m → j < i → ∀ d, dstAt ops i = some d → d < n ∧ dstAt ops j ≠ some d := fun i j hi hj d hd => by
    have := (List.all_eq_true.1 h1) i (List.mem_range.2 hi)
    rw [hd] at this
    simp only [Bool.and_eq_true] at this
    exact ⟨of_decide_eq_true this.1, fun e => of_decide_eq_true ((List.all_eq_true.1 this.2) j (List.mem_range.2 hj)) e.symm⟩
  refine ⟨of_decide_eq_true h0, fun i hi d hd => ?_, fun i j hi hj hne d hd => ?_, fun i hi k hk => ?_⟩
  · have := (List.all_eq_true.1 h1) i (List.mem_range.2 hi)
    rw [hd] at this
    simp only [Bool.and_eq_true] at this
    exact of_decide_eq_true this.1
  · rcases Nat.lt_or_ge i j with h | h
    · exact fun e => (hlt j i hj h d e).2 hd
    · exact (hlt i j hi (by omega) d hd).2
  · have := (List.all_eq_true.1 h2) i (List.mem_range.2 hi)
    exact of_decide_eq_true ((List.all_eq_true.1 this) k hk)
theorem slot_put_other' {m n : Nat} (hs : SeqOk ops m n) {a : Act} {i j : Nat} (hi : i < m) (hj : j < m) (hji : i ≠ j) {o : Oper} (ho : ops[i]? = some o) (v : Value) : slotOf ops j (a.put o.dst v) = slotOf ops j a := by
  have hod : dstAt ops i = o.dst := by unfold dstAt; rw [ho]; rfl
  unfold slotOf
  cases hq : o.dst with
  | none => rfl
  | some d =>
    cases hj' : dstAt ops j with
    | none => rfl
    | some e => exact put_getD_other (fun h => hs.ne i j hi hj hji d (by rw [hod, hq]) (by rw [hj', h]))

theorem fin_get' {m n : Nat} (hs : SeqOk ops m n) {Gs : List Fact} {K : Act → World → Prop} {a : Act} {w : World} (hn : a.tmps.size = n) (hf : ∀ i, i < m → factAt Gs i (slotOf ops i a) w) :
    ∀ (r : List Oper) (s : List Fact) (k : Nat) (b : Act), (∀ j, j < r.length → r[j]? = ops[k + j]?) → (∀ j, j < s.length → s[j]? = Gs[k + j]?) → r.length = s.length → k + r.length = m → b.defers = a.defers → b.tmps.size = a.tmps.size →
      (∀ t, (∀ i, k ≤ i → i < m → dstAt ops i ≠ some t) → b.tmps.getD t undef = a.tmps.getD t undef) → Fin K w r s b → K a w
  | [], [], k, b, _, _, _, hkm, hd, hsz, hag, h => by
    have hk : k = m := by simpa using hkm
    have : b = a := act_ext hd hsz fun t => hag t fun i h1 h2 => absurd h2 (by omega)
    subst this; exact h
  | o :: r, G :: s, k, b, hr, hG, hl, hkm, hd, hsz, hag, h => by
    have ho : ops[k]? = some o := by simpa using (hr 0 (by simp)).symm
    have hg : Gs[k]? = some G := by simpa using (hG 0 (by simp)).symm
    simp only [List.length_cons] at hkm hl
    have hdo : dstAt ops k = o.dst := by unfold dstAt; rw [ho]; rfl
    have hv := hf k (by omega)
    have hv' : G (slotOf ops k a) w := by unfold factAt at hv; rw [hg] at hv; exact hv
    have h1 := h (slotOf ops k a) hv'
    refine fin_get' hs hn hf r s (k + 1) _ (fun j hj => ?_) (fun j hj => ?_) (by omega) (by omega) (by rw [put_defers, hd]) (by rw [put_size, hsz]) (fun t ht => ?_) h1
    · have := hr (j + 1) (by simp; omega)
      simpa [Nat.add_assoc, Nat.add_comm 1 j] using this
    · have := hG (j + 1) (by simp; omega)
      simpa [Nat.add_assoc, Nat.add_comm 1 j] using this
    · have hrest : (∀ i, k ≤ i → i < m → dstAt ops i ≠ some t) ∨ dstAt ops k = some t := by
        by_cases e : dstAt ops k = some t
        · exact .inr e
        · refine .inl fun i h1 h2 => ?_
          rcases Nat.eq_or_lt_of_le h1 with e' | e'
          · subst e'; exact e
          · exact ht i e' h2
      rcases hrest with h2 | h2
      · have h3 : ∀ d, o.dst = some d → d ≠ t := fun d hd e => h2 k (Nat.le_refl _) (by omega) (by rw [hdo, hd, e])
        cases hod : o.dst with
        | none => exact hag t h2
        | some d => rw [put_getD_other (h3 d hod)]; exact hag t h2
      · rw [hdo] at h2
        rw [h2, put_getD_self (by rw [hsz, hn]; exact hs.dst k (by omega) t (by rw [hdo, h2]))]
        unfold slotOf; rw [hdo, h2]
  | [], G :: s, k, b, _, _, hl, _, _, _, _, _ => by simp at hl
  | o :: r, [], k, b, _, _, hl, _, _, _, _, _ => by simp at hl

theorem seq_any' {m n : Nat} (hs : SeqOk ops m n) {Gs : List Fact} {Fr : Act → Prop} {C C0 : World → Prop} {st : Nat} {al : Option Nat} {a0 : Act} {w0 : World}
    (hst : ∀ i, (i ≠ st → (factAt Gs i).stable al) ∧ (factAt Gs i).stable none) (hNone : ∀ i v w, dstAt ops i = none → factAt Gs i v w → factAt Gs i undef w)
    (hC : ∀ w', Rl al w0 w' → C w') (hC0 : ∀ w', Below w0.heap.size w0 w' → C0 w') (hFr : ∀ a, (∀ t, (∀ i, i < m → dstAt ops i ≠ some t) → a.tmps.getD t undef = a0.tmps.getD t undef) → Fr a)
    (hO : ∀ i, i < m → Obl P ops Q Gs Fr C C0 st al i)
    (hfin : ∀ a w, Rl al w0 w → a.defers = a0.defers → a.tmps.size = n → (∀ t, (∀ i, i < m → dstAt ops i ≠ some t) → a.tmps.getD t undef = a0.tmps.getD t undef) →
      (∀ i, i < m → factAt Gs i (slotOf ops i a) w) → wpList P ops Q (ops.toList.drop m) a w) :
    ∀ (p k : Nat) (a : Act) (w : World), k + p = m → Rl al w0 w → a.defers = a0.defers → a.tmps.size = n → (∀ t, (∀ i, i < m → dstAt ops i ≠ some t) → a.tmps.getD t undef = a0.tmps.getD t undef) →
      (∀ i, i < k → factAt Gs i (slotOf ops i a) w) → (k ≤ st → Below w0.heap.size w0 w) → wpList P ops Q (ops.toList.drop k) a w
  | 0, k, a, w, hp, hB, hd, hsz, hag, hf, hB0 => by
    obtain rfl : k = m := by omega
    exact hfin a w hB hd hsz hag hf
  | p + 1, k, a, w, hp, hB, hd, hsz, hag, hf, hB0 => by
    have hkm : k < m := by omega
    have hks : k < ops.size := Nat.lt_of_lt_of_le hkm hs.le
    have ho : ops[k]? = some ops[k] := Array.getElem?_eq_getElem hks
    have hod : dstAt ops k = ops[k].dst := by unfold dstAt; rw [ho]; rfl
    rw [List.drop_eq_getElem_cons (by simpa using hks)]
    simp only [Array.getElem_toList]
    refine wpList_step fun K' hK => ?_
    refine hO k hkm _ ho a w (hFr a hag) (hC w hB) (fun e => hC0 w (hB0 (by omega))) (known_of _ fun j hj => hf j (hs.dag k hks j hj)) K' fun v w' hG hB' => hK _ _ ?_
    have hB'' : Rl al w w' := by
      unfold exAt at hB'
      split at hB'
      · exact hB'
      · exact Rl.of_below hB' al
    refine seq_any' hs hst hNone hC hC0 hFr hO hfin p (k + 1) _ w' (by omega) (hB.trans hB'') (by rw [put_defers, hd]) (by rw [put_size, hsz]) (fun t ht => ?_) (fun j hj => ?_) (fun h0 => ?_)
    · have h4 := ht k hkm
      rw [hod] at h4
      cases hq : ops[k].dst with
      | none => exact hag t ht
      | some d => rw [put_getD_other (fun e => h4 (by rw [hq, e]))]; exact hag t ht
    · by_cases hjk : k = j
      · subst hjk
        cases hq : ops[k].dst with
        | none =>
          have e1 : slotOf ops k (a.put none v) = undef := by unfold slotOf; rw [hod, hq]
          rw [e1]
          exact hNone k v w' (by rw [hod, hq]) hG
        | some d =>
          have e1 : slotOf ops k (a.put (some d) v) = v := by
            unfold slotOf; rw [hod, hq]; exact put_getD_self (by rw [hsz]; exact hs.dst k hkm d (by rw [hod, hq]))
          rw [e1]; exact hG
      · have e1 : slotOf ops j (a.put ops[k].dst v) = slotOf ops j a := slot_put_other' hs hkm (by omega) hjk ho v
        rw [e1]
        have h5 := hf j (by omega)
        unfold exAt at hB'
        split at hB'
        · rename_i e; exact (hst j).1 (fun e' => hjk (by rw [e, e'])) _ _ _ h5 hB'
        · exact (hst j).2 _ _ _ h5 hB'
    · have hB1 := hB0 (by omega)
      unfold exAt at hB'
      rw [if_neg (by omega)] at hB'
      exact below_then hB1 hB1.size hB'

theorem region_sq {id : Nat} {a0 : Act} {w : World} (m n : Nat) (Gs : List Fact) (frs : List (Tmp × Value)) (C C0 : World → Prop) (st : Nat) (al : Option Nat) (hm : True) (hs : seqOk ops m n = true) (hn : a0.tmps.size = n) (hl : Gs.length = m)
    (hst : Stables ops st al 0 Gs) (hC : ∀ w', Rl al w w' → C w') (hC0 : ∀ w', Below w.heap.size w w' → C0 w') (hf1 : (frs.map (·.1)).all (fixedAt ops m) = true) (hf2 : FrL frs a0)
    (hO : Obls (Obl P ops Q Gs (FrL frs) C C0 st al) m 0) (hfin : ∀ w', Rl al w w' → C w' → Fin (wpList P ops Q (ops.toList.drop m)) w' (ops.toList.take m) Gs a0) : (Code.region id ops false).wp P Q a0 w := by
  have hS := seqOk_spec hs
  refine wp_region ?_
  have := seq_any' (a0 := a0) (w0 := w) (n := n) hS (Gs := Gs) (Fr := FrL frs) (C := C) (C0 := C0) (st := st) (al := al) (Q := Q) (P := P) (fun i => by have := (hst.get i).1; rwa [Nat.zero_add] at this) (fun i v w e => by have := (hst.get i).2 v w; rw [Nat.zero_add] at this; exact this e) hC hC0 (FrL.of hf1 hf2) (fun i hi => hO.get i (by omega) (by omega))
    (fun a w' hB hd hsz hag hf => by
      have hlen : (ops.toList.take m).length = m := by have := hS.le; simp; omega
      refine fin_get' hS hsz hf (ops.toList.take m) Gs 0 a0 (fun j hj => ?_) (fun j hj => by rw [Nat.zero_add]) (by rw [hlen, hl]) (by rw [hlen, Nat.zero_add]) hd.symm (by rw [hsz, hn]) (fun t ht => (hag t fun i h => ht i (Nat.zero_le _) h).symm) (hfin w' hB (hC w' hB))
      rw [hlen] at hj
      rw [Nat.zero_add, List.getElem?_take_of_lt hj, Array.getElem?_toList])
    m 0 a0 w (by omega) (Rl.of_below (Below.refl _ _) al) rfl hn (fun t _ => rfl) (fun i h => absurd h (by omega)) (fun _ => Below.refl _ _)
  rw [List.drop_zero] at this
  rw [List.range_eq_range', show ops.size = ops.toList.length from Array.length_toList.symm, wpOps_eq_wpList ops.toList 0 (fun j => by rw [Nat.zero_add, Array.getElem?_toList])]
  exact this
end
end Go.Proofs.Ytincemkjdgbnnaa
