/- Words: append onto a row of the call's own. -/
import Derived.Test.YtincemkjdgbnnaaLimB
import Derived.Maps.AppendAt
set_option linter.unusedVariables false
set_option linter.unusedSimpArgs false
namespace Go.Proofs.Ytincemkjdgbnnaa
open Go.RowKit Lm

/-- v owns a row that reads as l. -/
def Own (w : World) (base : Nat) (k : IntKind) (e : TypeId) (v : Value) (l : List Nat) : Prop := w.ownsRow base e 1 v l.length (l.map fun n : Nat => Value.int k (n : Int))

theorem Own.nil (w : World) (base : Nat) (k : IntKind) (e : TypeId) : Own w base k e (.slice none 0 0) [] := World.ownsRow_nil w base e 1
theorem Own.slice {w : World} {base : Nat} {k : IntKind} {e : TypeId} {v : Value} {l : List Nat} (h : Own w base k e v l) : ∃ A c, v = .slice A l.length c ∧ l.length ≤ c ∧ Rd w k A l := by
  rcases h.2 with ⟨rfl, h0⟩ | ⟨g, cap, cur, rfl, _, hh, hc, hm, hs, ht⟩
  · have : l = [] := List.length_eq_zero_iff.1 h0
    subst this
    exact ⟨none, 0, rfl, Nat.le_refl _, Rd.nil _ _ _⟩
  · refine ⟨_, cap, rfl, hc, fun _ => ⟨g, 0, rfl, fun i hi => ?_⟩⟩
    have := World.ownsRow.cells h (g := g) rfl i (.int k (nth l i : Int)) (by rw [List.getElem?_map, List.getElem?_eq_getElem hi, nth_of_lt hi]; rfl)
    rwa [add_off] at this
theorem Own.below {w w' : World} {base : Nat} {k : IntKind} {e : TypeId} {v : Value} {l : List Nat} (h : Own w base k e v l) (hb : Below w.heap.size w w') : Own w' base k e v l :=
  World.ownsRow.kept h (row := none) ⟨hb.os, hb.tape, hb.output, hb.size, fun i hi _ => hb.block i hi⟩ (by cases v.ownBlock <;> simp)

theorem app_n {P : Program} {w : World} {t ty e : TypeId} {k : IntKind} {by_ : Nat} (ht : P.underlying t = some (.slice e)) (hinfo : (P.info? e).map (fun i => (i.zero, i.size, i.bytes)) = some (some (.int k 0), 1, by_)) (hby : by_ ≤ 8)
    {base : Nat} {v : Value} {l : List Nat} (hown : Own w base k e v l) {A : Option Addr} {c : Nat} {m : List Nat} (hr : Rd w k A m) (hlen : l.length + m.length ≤ 8796093022208) (hbase : base ≤ w.heap.size) :
    ∃ v' w', (Builtin.append_ #[t, t] ty #[v, .slice A m.length c]).run P w = .ok v' w' ∧ Own w' base k e v' (l ++ m) ∧ w.grownBy w' v.ownBlock ∧ (v'.ownBlock = v.ownBlock ∨ v'.ownBlock = some w.heap.size) := by
  obtain ⟨i, hi, hz, hs, hb⟩ := info_parts hinfo
  rcases Nat.eq_zero_or_pos m.length with h0 | h0
  · have hm : m = [] := List.length_eq_zero_iff.1 h0
    subst hm
    refine ⟨v, w, ?_, by rw [List.append_nil]; exact hown, World.grownBy.refl w _, .inl rfl⟩
    rcases hown.2 with ⟨rfl, h2⟩ | ⟨g, cap, cur, rfl, _, _, hnc, _⟩
    · cases A <;> simp [Builtin.append_, run_underlying ht, sizeOf, typeInfo, hi, Builtin.lenOf, Builtin.firstCells, loadCells, loadCellsFrom]
    · cases A <;> simp [Builtin.append_, run_underlying ht, sizeOf, typeInfo, hi, Builtin.lenOf, Builtin.firstCells, hnc, storeCells, loadCells, loadCellsFrom]
  · obtain ⟨b, off, rfl, hrow⟩ := hr h0
    obtain ⟨v', w', hrun, h2, h3, _, h5⟩ := run_append_own_at (P := P) w base t ty e i (.int k 0) 1 by_ ht hi hz hs hb rfl (by omega) v l.length _ hown ⟨b, off, none⟩ m.length c
      (m.map fun n : Nat => Value.int k (n : Int)) (by simp) (fun j u hj => by
        rw [List.getElem?_map] at hj
        cases hq : m[j]? with
        | none => rw [hq] at hj; cases hj
        | some x =>
          rw [hq] at hj
          obtain ⟨h1, h2⟩ := List.getElem?_eq_some_iff.1 hq
          rw [add_off, hrow j h1, ← hj, nth_of_lt h1, h2]; rfl) (fun u hu => by obtain ⟨x, _, rfl⟩ := List.mem_map.1 hu; rfl)
      (by simp only [maxLen]; omega) (by
        have : (l.length + m.length) * by_ ≤ 8796093022208 * 8 := Nat.mul_le_mul hlen hby
        omega) hbase
    refine ⟨v', w', hrun, ?_, h3, h5⟩
    unfold Own
    rw [List.length_append, List.map_append]
    exact h2

/-- an append whose run is known. -/
theorem wpList_app {P : Program} {ops : Array Oper} {rest : List Oper} {o : Oper} {a : Act} {w : World} {Q : Exit → Act → World → Prop} (hgd : o.guard = none) (s x : Operand) (t : TypeId)
    (ho : o.op = .call { callee := .builtin .append, args := #[s, x], argTypes := #[t, t] }) {vs vx v' : Value} {w' : World} (hs : a.eval s = vs) (hx : a.eval x = vx)
    (hrun : (Builtin.append_ #[t, t] o.type #[vs, vx]).run P w = .ok v' w') (h : wpList P ops Q rest (a.put o.dst v') w') : wpList P ops Q (o :: rest) a w := by
  refine wpList_plain hgd fun K hK => ?_
  unfold Oper.wp execOp
  simp only [ho, resolve, invoke, builtin, Sem.run_bind, Sem.run_pure, Result.andThen_ok, List.map_toArray, List.map_cons, List.map_nil, hs, hx, hrun]
  exact hK _ _ h
end Go.Proofs.Ytincemkjdgbnnaa
