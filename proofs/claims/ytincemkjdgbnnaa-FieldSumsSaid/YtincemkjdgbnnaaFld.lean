/- Words: a prime field's constants, and the block in which they lie. -/
import Derived.Test.YtincemkjdgbnnaaDN
import Derived.Deep.RegionLaw
set_option linter.unusedVariables false
set_option linter.unusedSimpArgs false
namespace Go.Proofs.Ytincemkjdgbnnaa
open Go.RowKit Lm

/-- a block of whatever cells. -/
def VB (w : World) (b : Nat) (t : TypeId) (L : List Value) : Prop := w.heap[b]? = some (.cells L.toArray t (0, 0))
def nums (k : IntKind) (l : List Nat) : List Value := l.map fun n : Nat => Value.int k (n : Int)
theorem nums_length (k : IntKind) (l : List Nat) : (nums k l).length = l.length := by simp [nums]

section
variable {w w' : World} {b : Nat} {t : TypeId} {L : List Value}
theorem VB.lt (h : VB w b t L) : b < w.heap.size := by
  rcases Nat.lt_or_ge b w.heap.size with hlt | hge
  · exact hlt
  · unfold VB at h; rw [Array.getElem?_eq_none hge] at h; cases h
theorem VB.cell (h : VB w b t L) (i : Nat) : w.cell? ⟨b, i, none⟩ = L[i]? := by rw [cell_of_row w b i _ t (0, 0) h]; simp
theorem VB.frozen (h : VB w b t L) (i : Nat) : w.frozen? ⟨b, i, none⟩ = false := by unfold VB at h; simp [World.frozen?, h]
theorem VB.new (w : World) (t : TypeId) (L : List Value) : VB (w.alloc (.cells L.toArray t)) w.heap.size t L := heap_alloc_new w _
theorem VB.set_ (h : VB w b t L) (i : Nat) (v : Value) : VB (w.setCell ⟨b, i, none⟩ v) b t (L.set i v) := by
  unfold VB at h ⊢
  simp [World.setCell, Array.getElem?_modify, h]
theorem VB.below {B : Nat} (h : VB w b t L) (hb : Below B w w') (hg : b < B) : VB w' b t L := (hb.block b hg).trans h
theorem VB.next (h : VB w b t L) (hb : Below w.heap.size w w') : VB w' b t L := h.below hb h.lt
theorem VB.drew (h : VB w b t L) : VB w.drew b t L := h
theorem VB.drewN (h : VB w b t L) (n : Nat) : VB (w.drewN n) b t L := h
theorem VB.alloc (h : VB w b t L) (o : Obj) : VB (w.alloc o) b t L := (Below.heap_alloc w o b h.lt).trans h
theorem VB.far (h : VB w b t L) {p : Addr} (hp : b ≠ p.block) (u : Value) : VB (w.setCell p u) b t L := (Below.heap_setCell w p u b hp).trans h
theorem Only.vb {b' : Nat} (h : Only w w' b') (hr : VB w b t L) (hne : b ≠ b') : VB w' b t L := (h.block b hr.lt (fun e => hne (by injection e))).trans hr
theorem VB.of_blk {k : IntKind} {l : List Nat} (h : Blk w b t k l) : VB w b t (nums k l) := h
theorem VB.to_blk {k : IntKind} {l : List Nat} (h : VB w b t (nums k l)) : Blk w b t k l := h
end

/-- the builtin copy into a block of whatever cells. -/
theorem copy_v {P : Program} {w : World} {dT sT ty elem : TypeId} (hu : P.underlying dT = some (.slice elem)) (hs : (P.info? elem).map (·.size) = some 1) {k : IntKind} {t : TypeId} {b off dLen dCap sCap : Nat}
    {A : Option Addr} {L : List Value} {l : List Nat} (hb : VB w b t L) (hr : Rd w k A l) (hfit : off + dLen ≤ L.length) :
    ∃ w', (Builtin.copy_ #[dT, sT] ty #[.slice (some ⟨b, off, none⟩) dLen dCap, .slice A l.length sCap]).run P w = .ok (goInt ((min l.length dLen : Nat) : Int)) w' ∧
      VB w' b t (L.take off ++ (nums k (l.take dLen) ++ L.drop (off + min l.length dLen))) ∧ Only w w' b := by
  rcases Nat.eq_zero_or_pos (min l.length dLen) with h0 | h0
  · refine ⟨w, ?_, ?_, Only.refl _ _⟩
    · rw [run_copy_none (P := P) w dT sT ty elem _ _ _ _ _ _ hu hs h0, h0]; rfl
    · have : l.take dLen = [] := by
        rcases Nat.eq_zero_or_pos dLen with h | h
        · rw [h]; rfl
        · have : l.length = 0 := by omega
          rw [List.length_eq_zero_iff.1 this]; simp
      rw [this, h0, Nat.add_zero]
      simp only [nums, List.map_nil, List.nil_append, List.take_append_drop]
      exact hb
  · obtain ⟨b', off', rfl, hrow⟩ := hr (by omega)
    have hlen : (nums k (l.take dLen)).length = min l.length dLen := by rw [nums_length, List.length_take]; omega
    have hrun := run_copy_row (P := P) w dT sT ty elem b off dLen dCap ⟨b', off', none⟩ l.length sCap _ t (nums k (l.take dLen)) hu hs hb hlen
      (fun j v hj => by
        unfold nums at hj
        rw [List.getElem?_map] at hj
        cases hq : (l.take dLen)[j]? with
        | none => rw [hq] at hj; cases hj
        | some x =>
          rw [hq] at hj
          obtain ⟨h1, h2⟩ := List.getElem?_eq_some_iff.1 hq
          rw [List.length_take] at h1
          rw [add_off, hrow j (by omega), ← hj]
          have : nth l j = x := by rw [nth_of_lt (by omega), ← h2, List.getElem_take]
          rw [this]; rfl)
      (by rw [hlen]; simp; omega) (fun v hv => by obtain ⟨x, _, rfl⟩ := List.mem_map.1 hv; rfl)
    rw [hlen] at hrun
    refine ⟨_, hrun, ?_, ⟨rfl, rfl, rfl, by simp [World.setRow], fun i hi hne => setRow_other w b i _ (fun e => hne (by rw [e]))⟩⟩
    unfold VB
    rw [setRow_heap w b _ _ t (0, 0) hb]
    simp

theorem step_copy {P : Program} {ops : Array Oper} {o : Oper} {a : Act} {w : World} {K : Act → World → Prop} {Q : Exit → Act → World → Prop} {E : Prop} (hgd : o.guard = none) (d s : Operand) (dT sT : TypeId)
    (ho : o.op = .call { callee := .builtin .copy, args := #[d, s], argTypes := #[dT, sT] }) {vd vs v' : Value} {w' : World} (hd : a.eval d = vd) (hs : a.eval s = vs)
    (hrun : (Builtin.copy_ #[dT, sT] o.type #[vd, vs]).run P w = .ok v' w') (h : K (a.put o.dst v') w') : if Region.wanted o (yielded ops a.tmps) = true then Oper.wp P o a w K Q else E := by
  have hw : Region.wanted o (yielded ops a.tmps) = true := by simp [Region.wanted, hgd]
  rw [if_pos hw]
  unfold Oper.wp execOp
  simp only [ho, resolve, invoke, builtin, Sem.run_bind, Sem.run_pure, Result.andThen_ok, List.map_toArray, List.map_cons, List.map_nil, hd, hs, hrun]
  exact h
theorem wpList_copy {P : Program} {ops : Array Oper} {rest : List Oper} {o : Oper} {a : Act} {w : World} {Q : Exit → Act → World → Prop} (hgd : o.guard = none) (d s : Operand) (dT sT : TypeId)
    (ho : o.op = .call { callee := .builtin .copy, args := #[d, s], argTypes := #[dT, sT] }) {vd vs v' : Value} {w' : World} (hd : a.eval d = vd) (hs : a.eval s = vs)
    (hrun : (Builtin.copy_ #[dT, sT] o.type #[vd, vs]).run P w = .ok v' w') (h : wpList P ops Q rest (a.put o.dst v') w') : wpList P ops Q (o :: rest) a w := by
  refine wpList_plain hgd fun K hK => ?_
  unfold Oper.wp execOp
  simp only [ho, resolve, invoke, builtin, Sem.run_bind, Sem.run_pure, Result.andThen_ok, List.map_toArray, List.map_cons, List.map_nil, hd, hs, hrun]
  exact hK _ _ h

/-- a slice's address below block B at which l stands. -/
def RdB (w : World) (k : IntKind) (A : Option Addr) (l : List Nat) (B : Nat) : Prop := 0 < l.length → ∃ b off, A = some ⟨b, off, none⟩ ∧ b < B ∧ RowN w k b off l
theorem Rd.toB {w : World} {k : IntKind} {A : Option Addr} {l : List Nat} (h : Rd w k A l) : RdB w k A l w.heap.size := fun hl =>
  let ⟨b, off, e, hr⟩ := h hl; ⟨b, off, e, hr.lt hl, hr⟩
theorem RdB.rd {w : World} {k : IntKind} {A : Option Addr} {l : List Nat} {B : Nat} (h : RdB w k A l B) : Rd w k A l := fun hl =>
  let ⟨b, off, e, _, hr⟩ := h hl; ⟨b, off, e, hr⟩
theorem RdB.only {w w' : World} {k : IntKind} {A : Option Addr} {l : List Nat} {B b : Nat} (h : RdB w k A l B) (ho : Only w w' b) (hB : B ≤ b) : RdB w' k A l B := fun hl =>
  let ⟨b', off, e, hlt, hr⟩ := h hl; ⟨b', off, e, hlt, ho.row hr (by omega)⟩
theorem RdB.next {w w' : World} {k : IntKind} {A : Option Addr} {l : List Nat} {B : Nat} (h : RdB w k A l B) (hb : Below w.heap.size w w') : RdB w' k A l B := fun hl =>
  let ⟨b', off, e, hlt, hr⟩ := h hl; ⟨b', off, e, hlt, hr.below hb⟩
theorem RdB.drew {w : World} {k : IntKind} {A : Option Addr} {l : List Nat} {B : Nat} (h : RdB w k A l B) : RdB w.drew k A l B := h
theorem RdB.set_ {w : World} {k : IntKind} {A : Option Addr} {l : List Nat} {B b : Nat} (h : RdB w k A l B) (hB : B ≤ b) (i : Nat) (u : Value) : RdB (w.setCell ⟨b, i, none⟩ u) k A l B :=
  h.only ((Only.refl w b).set_ i u) hB

/-! ## a prime field -/
/-- less the inverse of p modulo 2^64, as the code reckons it: six times x (2 - p x). -/
def nw (p : Nat) : Nat → Nat
  | 0 => p
  | k + 1 => nw p k * ((2 + B64 - p * nw p k % B64) % B64) % B64
def ninv (P : Nat) : Nat := (B64 - nw (P % B64) 6) % B64

/-- the cells of a mont.Field: the prime, its limbs, less its inverse, 1, and what turns a number into an element. -/
def fcells (P n : Nat) : List Value :=
  nums .u64 (fix B64 6 P) ++ (.int .i64 (n : Int) :: .int .u64 (ninv P : Int) :: (nums .u64 (fix B64 6 (B64 ^ n % P)) ++ nums .u64 (fix B64 6 (B64 ^ (2 * n) % P))))

end Go.Proofs.Ytincemkjdgbnnaa
