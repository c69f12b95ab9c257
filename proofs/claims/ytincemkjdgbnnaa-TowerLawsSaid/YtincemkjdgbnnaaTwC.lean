/- Words for walks through the towers: the block of a tower, parts of elements, regions one operation behind the other. -/
import Derived.Test.YtincemkjdgbnnaaTwB
set_option linter.unusedVariables false
set_option linter.unusedSimpArgs false
namespace Go.Proofs.Ytincemkjdgbnnaa
open Go.RowKit Lm

/-! a region without a draw, by what each operation yields -/
section
variable {P : Program} {ops : Array Oper} {Q : Exit → Act → World → Prop}
theorem seq_any {m n : Nat} (hs : SchedOk ops m n) {Gs : List Fact} {Fr : Act → Prop} {C C0 : World → Prop} {st : Nat} {al : Option Nat} {a0 : Act} {w0 : World}
    (hst : ∀ i, (i ≠ st → (factAt Gs i).stable al) ∧ (factAt Gs i).stable none) (hNone : ∀ i v w, dstAt ops i = none → factAt Gs i v w → factAt Gs i undef w)
    (hC : ∀ w', Rl al w0 w' → C w') (hC0 : ∀ w', Below w0.heap.size w0 w' → C0 w') (hFr : ∀ a, (∀ t, (∀ i, i < m → dstAt ops i ≠ some t) → a.tmps.getD t undef = a0.tmps.getD t undef) → Fr a)
    (hO : ∀ i, i < m → Obl P ops Q Gs Fr C C0 st al i)
    (hfin : ∀ a w, Rl al w0 w → a.defers = a0.defers → a.tmps.size = n → (∀ t, (∀ i, i < m → dstAt ops i ≠ some t) → a.tmps.getD t undef = a0.tmps.getD t undef) →
      (∀ i, i < m → factAt Gs i (slotOf ops i a) w) → wpList P ops Q (ops.toList.drop m) a w) :
    ∀ (p k : Nat) (a : Act) (w : World), k + p = m → Rl al w0 w → a.defers = a0.defers → a.tmps.size = n → (∀ t, (∀ i, i < m → dstAt ops i ≠ some t) → a.tmps.getD t undef = a0.tmps.getD t undef) →
      (∀ i, i < k → factAt Gs i (slotOf ops i a) w) → (k ≤ st → Below w0.heap.size w0 w) → wpList P ops Q (ops.toList.drop k) a w
  | 0, k, a, w, hp, hB, hd, hsz, hag, hf, hB0 => by
    obtain rfl : k = m := by omega
    exact hfin a w hB hd hsz hag hf
  | p + 1, k, a, w, hp, hB, hd, hsz, hag, hf, hB0 => by
    have hkm : k < m := by omega
    have hks : k < ops.size := Nat.lt_of_lt_of_le hkm hs.le
    have ho : ops[k]? = some ops[k] := Array.getElem?_eq_getElem hks
    have hod : dstAt ops k = ops[k].dst := by unfold dstAt; rw [ho]; rfl
    rw [List.drop_eq_getElem_cons (by simpa using hks)]
    simp only [Array.getElem_toList]
    refine wpList_step fun K' hK => ?_
    refine hO k hkm _ ho a w (hFr a hag) (hC w hB) (fun e => hC0 w (hB0 (by omega))) (known_of _ fun j hj => hf j (hs.dag k hks j hj)) K' fun v w' hG hB' => hK _ _ ?_
    have hB'' : Rl al w w' := by
      unfold exAt at hB'
      split at hB'
      · exact hB'
      · exact Rl.of_below hB' al
    refine seq_any hs hst hNone hC hC0 hFr hO hfin p (k + 1) _ w' (by omega) (hB.trans hB'') (by rw [put_defers, hd]) (by rw [put_size, hsz]) (fun t ht => ?_) (fun j hj => ?_) (fun h0 => ?_)
    · have h4 := ht k hkm
      rw [hod] at h4
      cases hq : ops[k].dst with
      | none => exact hag t ht
      | some d => rw [put_getD_other (fun e => h4 (by rw [hq, e]))]; exact hag t ht
    · by_cases hjk : k = j
      · subst hjk
        cases hq : ops[k].dst with
        | none =>
          have e1 : slotOf ops k (a.put none v) = undef := by unfold slotOf; rw [hod, hq]
          rw [e1]
          exact hNone k v w' (by rw [hod, hq]) hG
        | some d =>
          have e1 : slotOf ops k (a.put (some d) v) = v := by
            unfold slotOf; rw [hod, hq]; exact put_getD_self (by rw [hsz]; exact hs.dst k hkm d (by rw [hod, hq]))
          rw [e1]; exact hG
      · have e1 : slotOf ops j (a.put ops[k].dst v) = slotOf ops j a := slot_put_other hs hkm (by omega) hjk ho v
        rw [e1]
        have h5 := hf j (by omega)
        unfold exAt at hB'
        split at hB'
        · rename_i e; exact (hst j).1 (fun e' => hjk (by rw [e, e'])) _ _ _ h5 hB'
        · exact (hst j).2 _ _ _ h5 hB'
    · have hB1 := hB0 (by omega)
      unfold exAt at hB'
      rw [if_neg (by omega)] at hB'
      exact below_then hB1 hB1.size hB'

/-- A REGION WITHOUT A DRAW. -/
theorem region_seq {id : Nat} {a0 : Act} {w : World} (m n : Nat) (Gs : List Fact) (frs : List (Tmp × Value)) (C C0 : World → Prop) (st : Nat) (al : Option Nat) (hm : True) (hs : schedOk ops m n = true) (hn : a0.tmps.size = n) (hl : Gs.length = m)
    (hst : Stables ops st al 0 Gs) (hC : ∀ w', Rl al w w' → C w') (hC0 : ∀ w', Below w.heap.size w w' → C0 w') (hf1 : (frs.map (·.1)).all (fixedAt ops m) = true) (hf2 : FrL frs a0)
    (hO : Obls (Obl P ops Q Gs (FrL frs) C C0 st al) m 0) (hfin : ∀ w', Rl al w w' → C w' → Fin (wpList P ops Q (ops.toList.drop m)) w' (ops.toList.take m) Gs a0) : (Code.region id ops false).wp P Q a0 w := by
  have hS := schedOk_spec hs
  refine wp_region ?_
  have := seq_any (a0 := a0) (w0 := w) (n := n) hS (Gs := Gs) (Fr := FrL frs) (C := C) (C0 := C0) (st := st) (al := al) (Q := Q) (P := P) (fun i => by have := (hst.get i).1; rwa [Nat.zero_add] at this) (fun i v w e => by have := (hst.get i).2 v w; rw [Nat.zero_add] at this; exact this e) hC hC0 (FrL.of hf1 hf2) (fun i hi => hO.get i (by omega) (by omega))
    (fun a w' hB hd hsz hag hf => by
      have hlen : (ops.toList.take m).length = m := by have := hS.le; simp; omega
      refine fin_get hS hsz hf (ops.toList.take m) Gs 0 a0 (fun j hj => ?_) (fun j hj => by rw [Nat.zero_add]) (by rw [hlen, hl]) (by rw [hlen, Nat.zero_add]) hd.symm (by rw [hsz, hn]) (fun t ht => (hag t fun i h => ht i (Nat.zero_le _) h).symm) (hfin w' hB (hC w' hB))
      rw [hlen] at hj
      rw [Nat.zero_add, List.getElem?_take_of_lt hj, Array.getElem?_toList])
    m 0 a0 w (by omega) (Rl.of_below (Below.refl _ _) al) rfl hn (fun t _ => rfl) (fun i h => absurd h (by omega)) (fun _ => Below.refl _ _)
  rw [List.drop_zero] at this
  rw [List.range_eq_range', show ops.size = ops.toList.length from Array.length_toList.symm, wpOps_eq_wpList ops.toList 0 (fun j => by rw [Nat.zero_add, Array.getElem?_toList])]
  exact this
end

/-! parts of an array are laid together -/
theorem foldl_set : ∀ (l X Y Z : List Value) (k off : Nat), X.length = off + k → Y.length = l.length →
    (l.zipIdx k).foldl (fun (cs : Array Value) (cj : Value × Nat) => cs.setIfInBounds (off + cj.2) cj.1) (X ++ (Y ++ Z)).toArray = (X ++ (l ++ Z)).toArray
  | [], X, Y, Z, k, off, hX, hY => by
    obtain rfl : Y = [] := List.length_eq_zero_iff.1 hY
    rfl
  | c :: l, X, Y, Z, k, off, hX, hY => by
    obtain ⟨y, Y', rfl⟩ : ∃ y Y', Y = y :: Y' := by
      cases Y with
      | nil => simp at hY
      | cons y Y' => exact ⟨y, Y', rfl⟩
    rw [List.zipIdx_cons, List.foldl_cons]
    have e : (X ++ (y :: Y' ++ Z)).toArray.setIfInBounds (off + k) c = (X ++ [c] ++ (Y' ++ Z)).toArray := by
      rw [List.setIfInBounds_toArray, List.set_append_right _ _ (by omega), hX, Nat.sub_self]
      simp
    rw [e, foldl_set l (X ++ [c]) Y' Z (k + 1) off (by simp; omega) (by simpa using hY)]
    simp
theorem fill_one {place : Nat → Option (Nat × Nat)} {cells c : List Value} {i off s : Nat} (hp : place i = some (off, s)) (hc : c.length = s) (hle : off + s ≤ cells.length) (rest : List (Nat × Value)) :
    Instr.fill place cells.toArray ((i, .agg c.toArray) :: rest) = Instr.fill place (cells.take off ++ (c ++ cells.drop (off + s))).toArray rest := by
  have h := foldl_set c (cells.take off) ((cells.drop off).take s) (cells.drop (off + s)) 0 off (by rw [List.length_take]; omega) (by rw [List.length_take, List.length_drop]; omega)
  have e : cells.take off ++ ((cells.drop off).take s ++ cells.drop (off + s)) = cells := by
    rw [← List.drop_drop, List.take_append_drop, List.take_append_drop]
  rw [e] at h
  conv => lhs; unfold Instr.fill
  simp only [hp]
  have e1 : (Value.agg c.toArray).cells = c.toArray := rfl
  split
  · rename_i h'
    rw [e1] at h'
    simp at h'
    omega
  · rw [e1, ← h]
    congr 1
    simp [← Array.foldl_toList]

section
variable {P : Program} {o : Oper} {a : Act} {w : World} {Q : Exit → Act → World → Prop} {K : Act → World → Prop}
theorem build_run {ty elem : TypeId} {k s : Nat} {z : List Value} {r : List Value} (hu : P.underlying ty = some (.array k elem)) (hs : (P.info? elem).map (·.size) = some s) (hz : (P.info? ty).map (·.zero) = some (some (.agg z.toArray)))
    {parts : Array (Nat × Value)} (hf : Instr.fill (fun i => some (i * s, s)) z.toArray parts.toList = some r.toArray) : (Instr.build ty parts).run P w = .ok (.agg r.toArray) w := by
  have hz' : ∃ i, P.info? ty = some i ∧ i.zero = some (.agg z.toArray) := by
    cases hq : P.info? ty with
    | none => rw [hq] at hz; cases hz
    | some i => rw [hq] at hz; exact ⟨i, rfl, by simpa using hz⟩
  obtain ⟨i, hi, hz2⟩ := hz'
  have hs' : ∃ j, P.info? elem = some j ∧ j.size = s := by
    cases hq : P.info? elem with
    | none => rw [hq] at hs; cases hs
    | some j => rw [hq] at hs; exact ⟨j, rfl, by simpa using hs⟩
  obtain ⟨j, hj, hj2⟩ := hs'
  subst hj2
  simp [Instr.build, zeroValue, typeInfo, hi, hz2, run_underlying hu, sizeOf, hj, Value.cells, hf]
theorem wp_bld {parts : Array (Nat × Operand)} (vals : Array (Nat × Value)) {ty elem : TypeId} {k s : Nat} {z r : List Value} (ho : o.op = .build ty parts) (hv : parts.map (fun p => (p.1, a.eval p.2)) = vals) (hu : P.underlying ty = some (.array k elem)) (hs : (P.info? elem).map (·.size) = some s)
    (hz : (P.info? ty).map (·.zero) = some (some (.agg z.toArray))) (hf : Instr.fill (fun i => some (i * s, s)) z.toArray vals.toList = some r.toArray) (h : K (a.put o.dst (.agg r.toArray)) w) : o.wp P a w K Q := by
  subst hv
  have hrun := build_run (w := w) hu hs hz hf
  unfold Oper.wp execOp
  simp only [ho, Sem.run_bind, hrun, Result.andThen_ok, Sem.run_pure]
  exact h
theorem fill1 {s : Nat} {z c : List Value} (hc : c.length = s) (hz : s ≤ z.length) : Instr.fill (fun i => some (i * s, s)) z.toArray [(0, .agg c.toArray)] = some (c ++ z.drop s).toArray := by
  rw [fill_one (off := 0) (s := s) (by rw [Nat.zero_mul]) hc (by omega), List.take_zero, List.nil_append, Nat.zero_add]
  rfl
theorem fill2 {s : Nat} {z c d : List Value} (hc : c.length = s) (hd : d.length = s) (hz : z.length = 2 * s) : Instr.fill (fun i => some (i * s, s)) z.toArray [(0, .agg c.toArray), (1, .agg d.toArray)] = some (c ++ d).toArray := by
  rw [fill_one (off := 0) (s := s) (by rw [Nat.zero_mul]) hc (by omega), List.take_zero, List.nil_append, Nat.zero_add,
    fill_one (off := s) (s := s) (by rw [Nat.one_mul]) hd (by simp; omega), take_app c _ hc, List.drop_of_length_le (by simp; omega), List.append_nil]
  rfl
theorem fill3 {s : Nat} {z c d e : List Value} (hc : c.length = s) (hd : d.length = s) (he : e.length = s) (hz : z.length = 3 * s) :
    Instr.fill (fun i => some (i * s, s)) z.toArray [(0, .agg c.toArray), (1, .agg d.toArray), (2, .agg e.toArray)] = some (c ++ (d ++ e)).toArray := by
  have h1 := fill_one (place := fun i => some (i * s, s)) (cells := z) (i := 0) (off := 0) (by rw [Nat.zero_mul]) hc (by omega) [(1, .agg d.toArray), (2, .agg e.toArray)]
  rw [List.take_zero, List.nil_append, Nat.zero_add] at h1
  have h2 := fill_one (place := fun i => some (i * s, s)) (cells := c ++ z.drop s) (i := 1) (off := s) (by rw [Nat.one_mul]) hd (by rw [List.length_append, List.length_drop]; omega) [(2, .agg e.toArray)]
  rw [take_app c _ hc, ← List.drop_drop, drop_app c _ hc, List.drop_drop] at h2
  have h3 := fill_one (place := fun i => some (i * s, s)) (cells := c ++ (d ++ z.drop (s + s))) (i := 2) (off := 2 * s) rfl he (by rw [List.length_append, List.length_append, List.length_drop]; omega) []
  rw [← List.append_assoc, take_app (c ++ d) _ (by rw [List.length_append]; omega), show List.drop (2 * s + s) (c ++ d ++ List.drop (s + s) z) = [] from List.drop_of_length_le (by rw [List.length_append, List.length_append, List.length_drop]; omega), List.append_nil, List.append_assoc, List.append_assoc] at h3
  rw [h1, h2, h3]
  rfl
theorem wp_bld1 {ty elem : TypeId} {k s : Nat} (x : Operand) (ho : o.op = .build ty #[(0, x)]) {c z : List Value} (h0 : a.eval x = .agg c.toArray) (hu : P.underlying ty = some (.array k elem)) (hs : (P.info? elem).map (·.size) = some s)
    (hz : (P.info? ty).map (·.zero) = some (some (.agg z.toArray))) (hc : c.length = s) (hl : s ≤ z.length) (h : K (a.put o.dst (.agg (c ++ z.drop s).toArray)) w) : o.wp P a w K Q :=
  wp_bld #[(0, .agg c.toArray)] ho (by simp [h0]) hu hs hz (fill1 hc hl) h
theorem wp_bld2 {ty elem : TypeId} {k s : Nat} (x y : Operand) (ho : o.op = .build ty #[(0, x), (1, y)]) {c d z : List Value} (h0 : a.eval x = .agg c.toArray) (h1 : a.eval y = .agg d.toArray) (hu : P.underlying ty = some (.array k elem)) (hs : (P.info? elem).map (·.size) = some s)
    (hz : (P.info? ty).map (·.zero) = some (some (.agg z.toArray))) (hc : c.length = s) (hd : d.length = s) (hl : z.length = 2 * s) (h : K (a.put o.dst (.agg (c ++ d).toArray)) w) : o.wp P a w K Q :=
  wp_bld #[(0, .agg c.toArray), (1, .agg d.toArray)] ho (by simp [h0, h1]) hu hs hz (fill2 hc hd hl) h
theorem wp_bld3 {ty elem : TypeId} {k s : Nat} (x y u : Operand) (ho : o.op = .build ty #[(0, x), (1, y), (2, u)]) {c d e z : List Value} (h0 : a.eval x = .agg c.toArray) (h1 : a.eval y = .agg d.toArray) (h2 : a.eval u = .agg e.toArray) (hu : P.underlying ty = some (.array k elem)) (hs : (P.info? elem).map (·.size) = some s)
    (hz : (P.info? ty).map (·.zero) = some (some (.agg z.toArray))) (hc : c.length = s) (hd : d.length = s) (he : e.length = s) (hl : z.length = 3 * s) (h : K (a.put o.dst (.agg (c ++ (d ++ e)).toArray)) w) : o.wp P a w K Q :=
  wp_bld #[(0, .agg c.toArray), (1, .agg d.toArray), (2, .agg e.toArray)] ho (by simp [h0, h1, h2]) hu hs hz (fill3 hc hd he hl) h
/-- a part of an array: its address. -/
theorem wp_idx {ty elem : TypeId} {k s b off : Nat} (x ix : Operand) (ho : o.op = .indexAddr ty x ix) (hx : a.eval x = .pointer (some ⟨b, off, none⟩)) (i : Nat) (hix : a.eval ix = .int .i64 (i : Int)) (hu : P.underlying ty = some (.array k elem)) (hs : (P.info? elem).map (·.size) = some s) (hi : i < k)
    (h : K (a.put o.dst (.pointer (some ⟨b, off + i * s, none⟩))) w) : o.wp P a w K Q := by
  have hs' : ∃ j, P.info? elem = some j ∧ j.size = s := by
    cases hq : P.info? elem with
    | none => rw [hq] at hs; cases hs
    | some j => rw [hq] at hs; exact ⟨j, rfl, by simpa using hs⟩
  obtain ⟨j, hj, hj2⟩ := hs'
  subst hj2
  have hrun : (Instr.indexAt ty (.pointer (some ⟨b, off, none⟩)) (.int .i64 (i : Int))).run P w = .ok (.pointer (some ⟨b, off + i * j.size, none⟩)) w := by
    simp [Instr.indexAt, asIntOf, run_underlying hu, Instr.sureAddr, sizeOf, typeInfo, hj, add_off, hi]
  unfold Oper.wp execOp
  simp only [ho, hx, hix, Sem.run_bind, hrun, Result.andThen_ok, Sem.run_pure]
  exact h
/-- a pointer that lies in a cell. -/
theorem wp_cell {ty : TypeId} (x : Operand) (ho : o.op = .load ty x) {b off : Nat} (hx : a.eval x = .pointer (some ⟨b, off, none⟩)) {v : Value} (hc : w.cell? ⟨b, off, none⟩ = some v) (hv : (Instr.loadAt ty (.pointer (some ⟨b, off, none⟩))).run P w = .ok v w) (h : K (a.put o.dst v) w) : o.wp P a w K Q := by
  unfold Oper.wp execOp
  simp only [ho, hx, Sem.run_bind, hv, Result.andThen_ok, Sem.run_pure]
  exact h
end

/-! the block of a tower -/
def tcells (bm P n : Nat) (N : Int) (fr : List Value) : List Value := .pointer (some ⟨bm, 0, none⟩) :: (m2 P n (xi N) ++ fr)
structure TB (w : World) (bt bm P n : Nat) (N : Int) (fr : List Value) : Prop where
  vb : VB w bt 179 (tcells bm P n N fr)
  fb : FB w bm P n
theorem TB.next {w w' : World} {bt bm P n : Nat} {N : Int} {fr : List Value} (h : TB w bt bm P n N fr) (hb : Below w.heap.size w w') : TB w' bt bm P n N fr := ⟨h.vb.next hb, h.fb.next hb⟩
theorem TB.only {w w' : World} {bt bm P n b : Nat} {N : Int} {fr : List Value} (h : TB w bt bm P n N fr) (ho : Only w w' b) (h1 : bt ≠ b) (h2 : bm ≠ b) : TB w' bt bm P n N fr := ⟨ho.vb h.vb h1, h.fb.only ho h2⟩
theorem TB.cellF {w : World} {bt bm P n : Nat} {N : Int} {fr : List Value} (h : TB w bt bm P n N fr) : w.cell? ⟨bt, 0, none⟩ = some (.pointer (some ⟨bm, 0, none⟩)) := (h.vb.cell 0).trans rfl
theorem tc_x (bm P n : Nat) (N : Int) (fr : List Value) : ((tcells bm P n N fr).drop 1).take 12 = m2 P n (xi N) := take_app _ fr (m2_len P n _)
/-- a tower's struct: the field and the tower in Montgomery's form. -/
structure TW (w : World) (b bf bt bm P n size : Nat) (N : Int) (fr : List Value) : Prop where
  vb : VB w b 130 [.pointer (some ⟨bf, 0, none⟩), .pointer (some ⟨bt, 0, none⟩)]
  fq : FQ w bf bm P n size
  tb : TB w bt bm P n N fr
theorem TW.next {w w' : World} {b bf bt bm P n size : Nat} {N : Int} {fr : List Value} (h : TW w b bf bt bm P n size N fr) (hb : Below w.heap.size w w') : TW w' b bf bt bm P n size N fr := ⟨h.vb.next hb, h.fq.next hb, h.tb.next hb⟩
theorem TW.only {w w' : World} {b bf bt bm P n size b' : Nat} {N : Int} {fr : List Value} (h : TW w b bf bt bm P n size N fr) (ho : Only w w' b') (h0 : b ≠ b') (h1 : bf ≠ b') (h2 : bt ≠ b') (h3 : bm ≠ b') : TW w' b bf bt bm P n size N fr := ⟨ho.vb h.vb h0, h.fq.only ho h1 h3, h.tb.only ho h2 h3⟩
theorem TW.cell0 {w : World} {b bf bt bm P n size : Nat} {N : Int} {fr : List Value} (h : TW w b bf bt bm P n size N fr) : w.cell? ⟨b, 0, none⟩ = some (.pointer (some ⟨bf, 0, none⟩)) := (h.vb.cell 0).trans rfl
theorem TW.cell1 {w : World} {b bf bt bm P n size : Nat} {N : Int} {fr : List Value} (h : TW w b bf bt bm P n size N fr) : w.cell? ⟨b, 1, none⟩ = some (.pointer (some ⟨bt, 0, none⟩)) := (h.vb.cell 1).trans rfl
/-- a field of a struct: its address. -/
theorem wp_fld {o : Oper} {a : Act} {w : World} {Q : Exit → Act → World → Prop} {K : Act → World → Prop} {ty : TypeId} {f b off off' : Nat} (x : Operand) (ho : o.op = .fieldAddr ty x f) (hx : a.eval x = .pointer (some ⟨b, off, none⟩))
    (hrun : (Instr.fieldAt ty (.pointer (some ⟨b, off, none⟩)) f).run Try.prog w = .ok (.pointer (some ⟨b, off', none⟩)) w) (h : K (a.put o.dst (.pointer (some ⟨b, off', none⟩))) w) : o.wp Try.prog a w K Q := by
  unfold Oper.wp execOp
  simp only [ho, hx, Sem.run_bind, hrun, Result.andThen_ok, Sem.run_pure]
  exact h
theorem wp_nil {P : Program} {o : Oper} {a : Act} {w : World} {Q : Exit → Act → World → Prop} {K : Act → World → Prop} (x : Operand) (ho : o.op = .nilCheck x) {p : Addr} (hx : a.eval x = .pointer (some p)) (h : K (a.put o.dst (.pointer (some p))) w) : o.wp P a w K Q := by
  unfold Oper.wp execOp
  simp only [ho, hx]
  go_simp
  exact h
theorem wp_ptr {o : Oper} {a : Act} {w : World} {Q : Exit → Act → World → Prop} {K : Act → World → Prop} {ty : TypeId} (x : Operand) (ho : o.op = .load ty x) {b off : Nat} (hx : a.eval x = .pointer (some ⟨b, off, none⟩)) {v : Value} (hc : w.cell? ⟨b, off, none⟩ = some v) (hg : ∀ w, (isAgg ty).run Try.prog w = .ok false w)
    (h : K (a.put o.dst v) w) : o.wp Try.prog a w K Q := by
  have hl : (loadVar ty ⟨b, off, none⟩).run Try.prog w = .ok v w := by
    have hg' := hg w
    unfold loadVar
    simp only [Sem.run_bind, hg', Result.andThen_ok]
    go_simp
  unfold Oper.wp execOp
  simp only [ho, hx, Instr.loadAt, Instr.sureAddr, Sem.run_bind, Sem.run_pure, Result.andThen_ok, hl]
  exact h
theorem Try.aggF (w : World) : (isAgg 99).run Try.prog w = .ok false w := by kernel_rfl
theorem Try.aggT (w : World) : (isAgg 128).run Try.prog w = .ok false w := by kernel_rfl
theorem Try.aggQ (w : World) : (isAgg 28).run Try.prog w = .ok false w := by kernel_rfl
theorem Try.fldT0 (b : Nat) (w : World) : (Instr.fieldAt 179 (.pointer (some ⟨b, 0, none⟩)) 0).run Try.prog w = .ok (.pointer (some ⟨b, 0, none⟩)) w := by kernel_rfl
theorem Try.fldT1 (b : Nat) (w : World) : (Instr.fieldAt 179 (.pointer (some ⟨b, 0, none⟩)) 1).run Try.prog w = .ok (.pointer (some ⟨b, 1, none⟩)) w := by kernel_rfl
theorem Try.fldW0 (b : Nat) (w : World) : (Instr.fieldAt 130 (.pointer (some ⟨b, 0, none⟩)) 0).run Try.prog w = .ok (.pointer (some ⟨b, 0, none⟩)) w := by kernel_rfl
theorem Try.fldW1 (b : Nat) (w : World) : (Instr.fieldAt 130 (.pointer (some ⟨b, 0, none⟩)) 1).run Try.prog w = .ok (.pointer (some ⟨b, 1, none⟩)) w := by kernel_rfl

/-- a pointer gets a variable of its own. -/
theorem boxP {P : Program} {ops : Array Oper} {rest : List Oper} {o : Oper} {a : Act} {w w0 : World} {L : List Cel} {Q : Exit → Act → World → Prop} (hgd : o.guard = none) (ty : TypeId) (x : Operand) (ho : o.op = .box ty x) (hS : St w0 w L) (p : Option Addr) (hx : a.eval x = .pointer p)
    (h : ∀ w' b, St w0 w' (L ++ [⟨b, ty, [.pointer p]⟩]) → wpList P ops Q rest (a.put o.dst (.pointer (some ⟨b, 0, none⟩))) w') : wpList P ops Q (o :: rest) a w := by
  refine wpList_plain hgd fun K hK => ?_
  unfold Oper.wp execOp
  simp only [ho, hx, Instr.box]
  exact hK _ _ (h (w.alloc (.cells #[.pointer p] ty)) w.heap.size (hS.push (below_alloc (Below.refl _ _) _) (Nat.le_refl _) (VB.new w ty [.pointer p])))
/-- a call through a function value. -/
theorem wp_callF {P : Program} {f : FuncId} {o : Oper} {a : Act} {w : World} {Q : Exit → Act → World → Prop} {K : Act → World → Prop} {t : Tmp} {xs : Array Operand} {ts : Array TypeId} (args cap : Array Value) (v : Value)
    (ho : o.op = .call { callee := .value (.tmp t), args := xs, argTypes := ts }) (hf : a.tmps.getD t undef = .func (.func f) #[] cap) (ha : xs.map a.eval = args) (hcall : ∀ (args : Array Value) (w : World), (callFunc f args).run P w = .ok (.enter f args) w)
    (hc : Calls P f (args ++ cap) w fun e w' => e = .returned v ∧ Below w.heap.size w w') (h : ∀ w', Below w.heap.size w w' → K (a.put o.dst v) w') : o.wp P a w K Q := by
  subst ha
  have hrun : (execOp a.eval o).run P w = .ok (.enter f (xs.map a.eval ++ cap)) w := by
    unfold execOp
    have hf' : a.eval (.tmp t) = .func (.func f) #[] cap := hf
    simp only [ho, resolve, hf', Deferred.ofValue, Sem.run_bind, Sem.run_pure, Result.andThen_ok, invoke, hcall, Array.empty_append]
  exact wp_callC _ _ hrun rfl hc fun _ w' hh => ⟨v, hh.1, h w' hh.2⟩
theorem wp_buildV {P : Program} {o : Oper} {a : Act} {w : World} {Q : Exit → Act → World → Prop} {K : Act → World → Prop} {ty : TypeId} {parts : Array (Nat × Operand)} {v : Value} (ho : o.op = .build ty parts)
    (hrun : (Instr.build ty (parts.map fun (i, x) => (i, a.eval x))).run P w = .ok v w) (h : K (a.put o.dst v) w) : o.wp P a w K Q := by
  unfold Oper.wp execOp
  simp only [ho, Sem.run_bind, hrun, Result.andThen_ok, Sem.run_pure]
  exact h
end Go.Proofs.Ytincemkjdgbnnaa
