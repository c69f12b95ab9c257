/- Words for memory: rows of numbers, slices that read as lists of numbers. -/
import Derived.WalkKit
import Derived.WalkSpells
import Derived.WalkLawsBesides
import Derived.BigQuiet
import Derived.Deep.QuietTactic
import Derived.Deep.RegionWith
import Derived.Deep.LoopGhost
set_option linter.unusedVariables false
set_option linter.unusedSimpArgs false
namespace Go.Proofs.Ytincemkjdgbnnaa
open Go.RowKit

theorem hide {p : Prop} (h : p) : Hid p := h

/-- the i-th number of a list; 0 behind its end. -/
def nth (l : List Nat) (i : Nat) : Nat := l.getD i 0
theorem nth_of_lt {l : List Nat} {i : Nat} (h : i < l.length) : nth l i = l[i] := by simp [nth, List.getD_eq_getElem?_getD, List.getElem?_eq_getElem h]
theorem nth_of_ge {l : List Nat} {i : Nat} (h : l.length ≤ i) : nth l i = 0 := by simp [nth, List.getD_eq_getElem?_getD, List.getElem?_eq_none h]
theorem nth_take {l : List Nat} {i n : Nat} (h : i < n) : nth (l.take n) i = nth l i := by
  simp [nth, List.getD_eq_getElem?_getD, List.getElem?_take, h]
theorem nth_drop (l : List Nat) (i n : Nat) : nth (l.drop n) i = nth l (n + i) := by simp [nth, List.getD_eq_getElem?_getD, List.getElem?_drop]
theorem nth_set_self {l : List Nat} {i v : Nat} (h : i < l.length) : nth (l.set i v) i = v := by simp [nth, List.getD_eq_getElem?_getD, List.getElem?_set, h]
theorem nth_set_ne {l : List Nat} {i j v : Nat} (h : i ≠ j) : nth (l.set i v) j = nth l j := by simp [nth, List.getD_eq_getElem?_getD, List.getElem?_set, h]
theorem nth_append_left {l m : List Nat} {i : Nat} (h : i < l.length) : nth (l ++ m) i = nth l i := by simp [nth, List.getD_eq_getElem?_getD, List.getElem?_append_left h]
theorem nth_append_right {l m : List Nat} {i : Nat} (h : l.length ≤ i) : nth (l ++ m) i = nth m (i - l.length) := by simp [nth, List.getD_eq_getElem?_getD, List.getElem?_append_right h]

/-- the cells from place 'off' of block b on are the numbers l. -/
def RowN (w : World) (k : IntKind) (b off : Nat) (l : List Nat) : Prop := ∀ i, i < l.length → w.cell? ⟨b, off + i, none⟩ = some (.int k (nth l i : Int))

theorem RowN.below {w w' : World} {k : IntKind} {b off : Nat} {l : List Nat} (h : RowN w k b off l) (hb : Below w.heap.size w w') : RowN w' k b off l := fun i hi =>
  (hb.cell (World.block_lt_of_cell? w _ (h i hi))).trans (h i hi)
theorem RowN.take {w : World} {k : IntKind} {b off : Nat} {l : List Nat} (h : RowN w k b off l) (n : Nat) : RowN w k b off (l.take n) := fun i hi => by
  rw [List.length_take] at hi
  rw [nth_take (by omega)]; exact h i (by omega)
theorem RowN.drop {w : World} {k : IntKind} {b off : Nat} {l : List Nat} (h : RowN w k b off l) (n : Nat) : RowN w k b (off + n) (l.drop n) := fun i hi => by
  rw [List.length_drop] at hi
  rw [nth_drop, Nat.add_assoc]; exact h (n + i) (by omega)
theorem RowN.lt {w : World} {k : IntKind} {b off : Nat} {l : List Nat} (h : RowN w k b off l) (hl : 0 < l.length) : b < w.heap.size := World.block_lt_of_cell? w _ (h 0 hl)

/-- a slice's address at which the numbers l stand (nil where there are none). -/
def Rd (w : World) (k : IntKind) (A : Option Addr) (l : List Nat) : Prop := 0 < l.length → ∃ b off, A = some ⟨b, off, none⟩ ∧ RowN w k b off l
theorem Rd.below {w w' : World} {k : IntKind} {A : Option Addr} {l : List Nat} (h : Rd w k A l) (hb : Below w.heap.size w w') : Rd w' k A l := fun hl =>
  let ⟨b, off, e, hr⟩ := h hl; ⟨b, off, e, hr.below hb⟩
theorem Rd.nil (w : World) (k : IntKind) (A : Option Addr) : Rd w k A [] := fun h => absurd h (Nat.lt_irrefl 0)
theorem Rd.take {w : World} {k : IntKind} {A : Option Addr} {l : List Nat} (h : Rd w k A l) (n : Nat) : Rd w k A (l.take n) := fun hl => by
  rw [List.length_take] at hl
  obtain ⟨b, off, e, hr⟩ := h (by omega)
  exact ⟨b, off, e, hr.take n⟩

/-- the most places that a slice that is handed in may have. -/
def lim : Nat := 1099511627776

/-- a call hands back a slice that reads as l; nothing that stood is changed. -/
def RetSl (w : World) (k : IntKind) (l : List Nat) (e : Ending) (w' : World) : Prop :=
  ∃ A c, e = .returned (.slice A l.length c) ∧ l.length ≤ c ∧ Rd w' k A l ∧ Below w.heap.size w w'

theorem retsl_mk {w w' : World} {k : IntKind} {l : List Nat} {A : Option Addr} {n c : Nat} (hb : Below w.heap.size w w') (hn : l.length = n) (hnc : n ≤ c) (hr : Rd w' k A l) :
    RetSl w k l (.returned (.slice A n c)) w' := by subst hn; exact ⟨A, c, rfl, hnc, hr, hb⟩

/-- a block that is known whole: a row of numbers of one kind. -/
def nblk (k : IntKind) (t : TypeId) (L : List Nat) : Obj := .cells (L.map fun n : Nat => Value.int k (n : Int)).toArray t (0, 0)
def Blk (w : World) (b : Nat) (t : TypeId) (k : IntKind) (L : List Nat) : Prop := w.heap[b]? = some (nblk k t L)

section
variable {w w' : World} {b : Nat} {t : TypeId} {k : IntKind} {L : List Nat}
theorem Blk.lt (h : Blk w b t k L) : b < w.heap.size := by
  rcases Nat.lt_or_ge b w.heap.size with hlt | hge
  · exact hlt
  · unfold Blk at h; rw [Array.getElem?_eq_none hge] at h; cases h
theorem Blk.cell (h : Blk w b t k L) {i : Nat} (hi : i < L.length) : w.cell? ⟨b, i, none⟩ = some (.int k (nth L i : Int)) := by
  rw [cell_of_row w b i _ t (0, 0) h]
  simp [List.getElem?_eq_getElem hi, nth_of_lt hi]
theorem Blk.frozen (h : Blk w b t k L) (i : Nat) : w.frozen? ⟨b, i, none⟩ = false := by
  unfold Blk nblk at h
  simp [World.frozen?, h]
theorem Blk.new (w : World) (k : IntKind) (t : TypeId) (L : List Nat) : Blk (w.alloc (nblk k t L)) w.heap.size t k L := heap_alloc_new w _
theorem Blk.set_ (h : Blk w b t k L) (i : Nat) {E : Int} {z : Nat} (hE : E = (z : Int)) : Blk (w.setCell ⟨b, i, none⟩ (.int k E)) b t k (L.set i z) := by
  subst hE
  unfold Blk nblk at h ⊢
  simp [World.setCell, Array.getElem?_modify, h, List.map_set]
theorem Blk.below {B : Nat} (h : Blk w b t k L) (hb : Below B w w') (hg : b < B) : Blk w' b t k L := (hb.block b hg).trans h
theorem Blk.next (h : Blk w b t k L) (hb : Below w.heap.size w w') : Blk w' b t k L := h.below hb h.lt
theorem Blk.drew (h : Blk w b t k L) : Blk w.drew b t k L := h
theorem Blk.drewN (h : Blk w b t k L) (n : Nat) : Blk (w.drewN n) b t k L := h
theorem Blk.alloc (h : Blk w b t k L) (o : Obj) : Blk (w.alloc o) b t k L := (Below.heap_alloc w o b h.lt).trans h
theorem Blk.far (h : Blk w b t k L) {p : Addr} (hp : b ≠ p.block) (u : Value) : Blk (w.setCell p u) b t k L := (Below.heap_setCell w p u b hp).trans h
theorem Blk.row (h : Blk w b t k L) (off : Nat) : RowN w k b off (L.drop off) := fun i hi => by
  rw [List.length_drop] at hi
  rw [nth_drop]; exact h.cell (by omega)
theorem Blk.row0 (h : Blk w b t k L) : RowN w k b 0 L := fun i hi => by
  rw [Nat.zero_add]; exact h.cell hi
end

theorem below_then {B : Nat} {w w1 w2 : World} (h : Below B w w1) (hB : B ≤ w1.heap.size) (k : Below w1.heap.size w1 w2) : Below B w w2 :=
  h.trans ⟨k.os, k.tape, k.output, k.size, fun i hi => k.block i (Nat.lt_of_lt_of_le hi hB)⟩
theorem below_next {w w1 w2 : World} (h : Below w.heap.size w w1) (k : Below w1.heap.size w1 w2) : Below w.heap.size w w2 := below_then h h.size k
theorem below_drew {B : Nat} {w W : World} (h : Below B w W) : Below B w W.drew := ⟨h.os, h.tape, h.output, h.size, h.block⟩
theorem below_drewN {B : Nat} {w W : World} (h : Below B w W) (n : Nat) : Below B w (W.drewN n) := ⟨h.os, h.tape, h.output, h.size, h.block⟩
theorem below_alloc {w W : World} (h : Below w.heap.size w W) (o : Obj) : Below w.heap.size w (W.alloc o) := h.alloc h.size o

theorem Blk.type {w : World} {b : Nat} {t : TypeId} {k : IntKind} {L : List Nat} (h : Blk w b t k L) : w.heap[b]? = some (.cells (L.map fun n : Nat => Value.int k (n : Int)).toArray t (0, 0)) := h

/-- only block b (and what is new) has changed. -/
def Only (w w' : World) (b : Nat) : Prop := w.grownBy w' (some b)
theorem Only.refl (w : World) (b : Nat) : Only w w b := World.grownBy.refl w _
theorem Only.of_below {w w' : World} {b : Nat} (h : Below w.heap.size w w') : Only w w' b := ⟨h.os, h.tape, h.output, h.size, fun i hi _ => h.block i hi⟩
theorem Only.trans {w w1 w2 : World} {b : Nat} (h : Only w w1 b) (k : Only w1 w2 b) : Only w w2 b :=
  ⟨k.os.trans h.os, k.tape.trans h.tape, k.output.trans h.output, Nat.le_trans h.size k.size, fun i hi hne => (k.block i (Nat.lt_of_lt_of_le hi h.size) hne).trans (h.block i hi hne)⟩
theorem Only.set_ {w w1 : World} {b : Nat} (h : Only w w1 b) (i : Nat) (u : Value) : Only w (w1.setCell ⟨b, i, none⟩ u) b :=
  ⟨h.os, h.tape, h.output, by simpa [World.setCell] using h.size, fun j hj hne => (Below.heap_setCell w1 ⟨b, i, none⟩ u j (by rintro rfl; exact hne rfl)).trans (h.block j hj hne)⟩
theorem Only.drew {w w1 : World} {b : Nat} (h : Only w w1 b) : Only w w1.drew b := ⟨h.os, h.tape, h.output, h.size, h.block⟩
theorem Only.drewN {w w1 : World} {b : Nat} (h : Only w w1 b) (n : Nat) : Only w (w1.drewN n) b := ⟨h.os, h.tape, h.output, h.size, h.block⟩
theorem Only.row {w w' : World} {b : Nat} (h : Only w w' b) {k : IntKind} {b' off : Nat} {l : List Nat} (hr : RowN w k b' off l) (hne : b' ≠ b) : RowN w' k b' off l := fun i hi => by
  have hc := hr i hi
  rw [← hc]
  exact World.cell?_of_block (h.block b' (World.block_lt_of_cell? w _ hc) (fun e => hne (by injection e)))
theorem Only.blk {w w' : World} {b : Nat} (h : Only w w' b) {k : IntKind} {b' : Nat} {t : TypeId} {L : List Nat} (hr : Blk w b' t k L) (hne : b' ≠ b) : Blk w' b' t k L :=
  (h.block b' hr.lt (fun e => hne (by injection e))).trans hr
theorem Only.below {w0 w w' : World} {b : Nat} (h0 : Below w0.heap.size w0 w) (h : Only w w' b) (hb : w0.heap.size ≤ b) : Below w0.heap.size w0 w' :=
  h0.grown h h0.size (fun k hk => by injection hk with hk; omega)

/-- a call that leaves the world alone, in a region that draws, behind another such region. -/
theorem quiet_at {P : Program} {f : FuncId} {args : Array Value} {w : World} {a n : Nat} {v : Value} (h : ∀ W, Calls P f args W fun e w' => e = .returned v ∧ w' = W) :
    Calls P f args (w.drewN (a + n)) fun e w' => e = .returned v ∧ ∃ m, w' = w.drewN (a + m) := (h _).mono fun _ _ ⟨he, hm⟩ => ⟨he, n, hm⟩
theorem quiet_at0 {P : Program} {f : FuncId} {args : Array Value} {w : World} {n : Nat} {v : Value} (h : ∀ W, Calls P f args W fun e w' => e = .returned v ∧ w' = W) :
    Calls P f args (w.drewN n) fun e w' => e = .returned v ∧ ∃ m, w' = w.drewN m := (h _).mono fun _ _ ⟨he, hm⟩ => ⟨he, n, hm⟩

theorem quiet_dr {P : Program} {f : FuncId} {args : Array Value} {w : World} {a n : Nat} {v : Value} (h : ∀ W, Calls P f args W fun e w' => e = .returned v ∧ ∃ k, w' = W.drewN k) :
    Calls P f args (w.drewN (a + n)) fun e w' => e = .returned v ∧ ∃ m, w' = w.drewN (a + m) :=
  (h _).mono fun _ _ ⟨he, k, hm⟩ => ⟨he, n + k, by rw [hm, World.drewN_drewN, Nat.add_assoc]⟩
theorem quiet_dr0 {P : Program} {f : FuncId} {args : Array Value} {w : World} {n : Nat} {v : Value} (h : ∀ W, Calls P f args W fun e w' => e = .returned v ∧ ∃ k, w' = W.drewN k) :
    Calls P f args (w.drewN n) fun e w' => e = .returned v ∧ ∃ m, w' = w.drewN m :=
  (h _).mono fun _ _ ⟨he, k, hm⟩ => ⟨he, n + k, by rw [hm, World.drewN_drewN]⟩
theorem wrap_in (x : Int) (h0 : -9223372036854775808 ≤ x) (h1 : x ≤ 9223372036854775807) : IntKind.i64.wrap x = x := by rw [IntKind.wrap_i64]; omega
theorem wrap_u (x : Int) (h0 : 0 ≤ x) (h1 : x < 18446744073709551616) : IntKind.u64.wrap x = x := by rw [IntKind.wrap_u64]; omega

theorem add_off (b o j : Nat) : (⟨b, o, none⟩ : Addr).add j = ⟨b, o + j, none⟩ := by unfold Addr.add; split <;> simp_all

/-- the builtin copy into a block that is known. -/
theorem copy_n {P : Program} {w : World} {dT sT ty elem : TypeId} (hu : P.underlying dT = some (.slice elem)) (hs : (P.info? elem).map (·.size) = some 1) {k : IntKind} {t : TypeId} {b off dLen dCap sCap : Nat}
    {A : Option Addr} {L l : List Nat} (hb : Blk w b t k L) (hr : Rd w k A l) (hfit : off + dLen ≤ L.length) :
    ∃ w', (Builtin.copy_ #[dT, sT] ty #[.slice (some ⟨b, off, none⟩) dLen dCap, .slice A l.length sCap]).run P w = .ok (goInt ((min l.length dLen : Nat) : Int)) w' ∧
      Blk w' b t k (L.take off ++ (l.take dLen ++ L.drop (off + min l.length dLen))) ∧ Only w w' b := by
  rcases Nat.eq_zero_or_pos (min l.length dLen) with h0 | h0
  · refine ⟨w, ?_, ?_, Only.refl _ _⟩
    · rw [run_copy_none (P := P) w dT sT ty elem _ _ _ _ _ _ hu hs h0, h0]; rfl
    · have : l.take dLen = [] := by
        rcases Nat.eq_zero_or_pos dLen with h | h
        · rw [h]; rfl
        · have : l.length = 0 := by omega
          rw [List.length_eq_zero_iff.1 this]; simp
      rw [this, h0, Nat.add_zero, List.nil_append, List.take_append_drop]; exact hb
  · obtain ⟨b', off', rfl, hrow⟩ := hr (by omega)
    have hlen : ((l.take dLen).map fun n : Nat => Value.int k (n : Int)).length = min l.length dLen := by simp; omega
    have hrun := run_copy_row (P := P) w dT sT ty elem b off dLen dCap ⟨b', off', none⟩ l.length sCap _ t ((l.take dLen).map fun n : Nat => Value.int k (n : Int)) hu hs hb hlen
      (fun j v hj => by
        rw [List.getElem?_map] at hj
        cases hq : (l.take dLen)[j]? with
        | none => rw [hq] at hj; cases hj
        | some x =>
          rw [hq] at hj
          have hjl := (List.getElem?_eq_some_iff.1 hq)
          obtain ⟨h1, h2⟩ := hjl
          rw [List.length_take] at h1
          rw [add_off, hrow j (by omega), ← hj]
          have : nth l j = x := by rw [nth_of_lt (by omega), ← h2, List.getElem_take]
          rw [this]; rfl)
      (by rw [hlen]; simp; omega) (fun v hv => by obtain ⟨x, _, rfl⟩ := List.mem_map.1 hv; rfl)
    rw [hlen] at hrun
    refine ⟨_, hrun, ?_, ⟨rfl, rfl, rfl, by simp [World.setRow], fun i hi hne => setRow_other w b i _ (fun e => hne (by rw [e]))⟩⟩
    unfold Blk
    rw [setRow_heap w b _ _ t (0, 0) hb]
    simp [nblk]

theorem ret_slice {A A' : Option Addr} {n n' c c' : Nat} (h1 : A = A') (h2 : n = n') (h3 : c = c') : Ending.returned (.slice A n c) = .returned (.slice A' n' c') := by rw [h1, h2, h3]
theorem val_int {k : IntKind} {a b : Int} (h : a = b) : Value.int k a = .int k b := by rw [h]
theorem ret_int {k : IntKind} {a b : Int} (h : a = b) : Ending.returned (.int k a) = .returned (.int k b) := by rw [h]

end Go.Proofs.Ytincemkjdgbnnaa
